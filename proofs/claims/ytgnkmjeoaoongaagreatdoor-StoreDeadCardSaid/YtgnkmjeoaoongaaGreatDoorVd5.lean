/- store -/
import Derived.Test.YtgnkmjeoaoongaaGreatDoorVd0
import Derived.Test.YtgnkmjeoaoongaaGreatDoorVd1
set_option maxRecDepth 100000
set_option maxHeartbeats 4000000
open List (length_append length_singleton mem_append mem_singleton mem_append_left pairwise_append mem_map length_cons length_map mem_of_getElem?)
namespace Go.Proofs.YtgnkmjeoaoongaaGreatDoor
open Tryz (prog)
open Go.RowKit Go.Mer
structure Fit (k:Nat) (P:ByteArray) (s:Qz) (st:Jf):Prop where
 room:s.room<=1048576
 ok:Xs s.files
 hne:st.Qk=[]->st.Qi.length<=st.synced
 hsl:st.synced<=st.Qi.length
 no: ∀z∈st.Qk,z.1<=st.Qi.length+1
 Qi:st.Qi.length<=90000+k
 Qk:st.Qk.length<=5000+k
 big: ∀z∈st.Qk,z.2<=300000*(k+7)
theorem Fit.mono {k k':Nat} {P:ByteArray} {s:Qz} {st:Jf} (h:Fit k P s st) (hk:k<=k'):Fit k' P s st:=
 ⟨h.room,h.ok,h.hne,h.hsl,h.no,by have:=h.Qi;omega,by have:=h.Qk;omega,λz hz=>by have:=h.big z hz;omega⟩
structure Whole (P:ByteArray) (s:Qz) (st:Jf):Prop where
 tr:Qdb P s st
 only: ∀p∈s.files,V5 P p.1=true-> ∃z∈st.Qk,p.1=X7 P z.1
 rise:st.Qk.Pairwise λy z=>y.1<z.1
 pos: ∀z∈st.Qk,0<z.2->z.1<=st.Qi.length
theorem Qdm {s:Qz} {x:ByteArray} {c:Int} {fs:Jl} (h:Xs s.files) (hf:Jq x=true->Xs fs):Xs (five s [x] c fs).2.files/\(five s [x] c fs).2.room=s.room:=by
 unfold five;split
 ·exact ⟨h,rfl⟩
 ·split
  ·next hx=>
   split
   ·exact ⟨hf (by simpa using hx),rfl⟩
   ·exact ⟨h,rfl⟩
  ·exact ⟨h,rfl⟩
theorem I3 {s:Qz} {ns:List ByteArray} {c:Int} {fs:Jl} (h:(five s ns c fs).1≠0):(five s ns c fs).2=s:=by
 unfold five at h⊢;split
 ·rfl
 ·next h1=>
  rw [if_neg h1] at h;split
  ·next h2=>
   rw [if_pos h2] at h;split
   ·next h3=>rw [if_pos h3] at h;exact absurd rfl h
   ·rfl
  ·rfl
theorem I4 {s:Qz} {ns:List ByteArray} {c:Int} {fs:Jl} (h:(five s ns c fs).1=0):c=0/\ns.all Jq=true/\(five s ns c fs).2={s with Jo:=s.Jo.map (· - 1),files:=fs}:=by
 unfold five at h⊢;split
 ·next h1=>rw [if_pos h1] at h;cases h
 ·next h1=>
  rw [if_neg h1] at h;split
  ·next h2=>
   rw [if_pos h2] at h;split
   ·next h3=>exact ⟨h3,h2,rfl⟩
   ·next h3=>rw [if_neg h3] at h;exact absurd h h3
  ·next h2=>rw [if_neg h2] at h;cases h
theorem J3c {s:Qz} (h:Xs s.files) (x:ByteArray):Xs (Da s x).2.files/\(Da s x).2.room=s.room:=Qdm h λhx=>by
 unfold Xj;split
 ·exact Ae h hx
 ·exact h
theorem Qtk {s:Qz} (h:Xs s.files) (x:ByteArray) (p:List UInt8):Xs (Gy s x p).2.files/\(Gy s x p).2.room=s.room:=Qdm h λhx=>by
 unfold Jg;split
 ·exact Ae h hx
 ·exact Ae h hx
def Xa (l l':Jl):Prop:=(∀y,(Oj l' y).1=(Oj l y).1)/\ ∀p∈l',∃q∈l,q.1=p.1
theorem Xa.refl (l:Jl):Xa l l:=⟨λ_=>rfl,λp hp=>⟨p,hp,rfl⟩⟩
theorem Qrd (s:Qz) (x:ByteArray):Xa s.files (Da s x).2.files:=by
 by_cases h:(Da s x).1=0
 ·obtain ⟨h1,h2,h3⟩:=I4 h;have e:(Da s x).2.files=Xj s.files x:=by unfold Da;rw [h3]
  rw [e];unfold Xj;cases hg:Qs s.files x with
  |none=>exact Xa.refl _
  |some c=>
   refine ⟨λy=>?_,λp hp=>?_⟩
   ·unfold Oj;simp only
    rw [Y7];by_cases hy:y=x
    ·rw [if_pos hy,hy,hg]
    ·rw [if_neg hy]
   ·rcases E5 hp with e|h
    ·exact ⟨_,Jc hg,e.symm⟩
    ·exact h
 ·have e:(Da s x).2=s:=I3 h;rw [e];exact Xa.refl _
theorem Whole.same {P:ByteArray} {s s':Qz} {st st':Jf} (h:Whole P s st) (hd:Xa s.files s'.files) (he:st'.Qi=st.Qi) (hs:st'.Qk=st.Qk):Whole P s' st':=by
 refine ⟨λS1 z hz=>?_,λp hp hx=>?_,by rw [hs];exact h.rise,by rw [hs,he];exact h.pos⟩
 ·rw [hd.1];exact h.tr S1 z (hs▸hz)
 ·obtain ⟨q,hq,e⟩:=hd.2 p hp;rw [<-e] at hx⊢;rw [hs];exact h.only q hq hx
theorem Q1s (P:ByteArray) (s:Qz) (st:Jf):Xa s.files (J0 P s st).2.1.files:=by
 unfold J0;split
 ·split
  ·exact Xa.refl _
  ·exact Qrd s _
 ·exact Xa.refl _
theorem Q36 {k:Nat} {P:ByteArray} {s:Qz} {st:Jf} (h:Fit k P s st):Fit k P (J0 P s st).2.1 (J0 P s st).2.2:=by
 unfold J0;split
 ·split
  ·exact h
  ·next z _=>
   have h1:=J3c h.ok (X7 P z.1);simp only
   split
   ·exact ⟨by rw [h1.2];exact h.room,h1.1,λ_=>Nat.le_refl _,Nat.le_refl _,h.no,h.Qi,h.Qk,h.big⟩
   ·exact ⟨by rw [h1.2];exact h.room,h1.1,h.hne,h.hsl,h.no,h.Qi,h.Qk,h.big⟩
 ·exact h
theorem Fit.dead {k:Nat} {P:ByteArray} {s:Qz} {st:Jf} (h:Fit k P s st) (b:Bool):Fit k P s {st with dead:=b}:=⟨h.room,h.ok,h.hne,h.hsl,h.no,h.Qi,h.Qk,h.big⟩
theorem Qpm {k:Nat} {P:ByteArray} {s:Qz} {st:Jf} (h:Fit k P s st):Fit k P (Yi P s st).2.1 (Yi P s st).2.2:=by
 unfold Yi;split
 ·exact h
 ·exact (Q36 h).dead _
theorem Qhj {P:ByteArray} {s:Qz} {st:Jf} (h:Whole P s st):Whole P (Yi P s st).2.1 (Yi P s st).2.2:=by
 unfold Yi;split
 ·exact h
 ·obtain ⟨h1,h2,_⟩:=Ol P s st;exact h.same (Q1s P s st) h1 h2
theorem Qdl {k:Nat} {P:ByteArray} {s:Qz} {st:Jf} (h:Fit k P s st):Fit k P (Ju P s st).2.1 (Ju P s st).2.2:=by
 unfold Ju;split
 ·exact Q36 h
 ·exact h
theorem Q8l (P:ByteArray) (s:Qz) (st:Jf):(Ju P s st).2.2.Qi=st.Qi/\(Ju P s st).2.2.Qk=st.Qk/\(Ju P s st).2.2.dead=st.dead:=by
 unfold Ju;split
 ·exact Ol P s st
 ·exact ⟨rfl,rfl,rfl⟩
theorem Qmg (P:ByteArray) (s:Qz) (st:Jf):Xa s.files (Ju P s st).2.1.files:=by
 unfold Ju;split
 ·exact Q1s P s st
 ·exact Xa.refl _
theorem Qmi (P:ByteArray) (s:Qz) (st:Jf):(Ju P s st).1≠6:=by
 unfold Ju;split
 ·exact Q1u P s st
 ·simp
theorem Q1k (st:Jf):st.Qk=[]\/ ∃S1 z,st.Qk=S1++[z]:=by
 rcases List.eq_nil_or_concat st.Qk with h|⟨S1,z,h⟩
 ·exact .inl h
 ·exact .inr ⟨S1,z,by rw [h,List.concat_eq_append]⟩
theorem Dl {st:Jf} {p:List UInt8}:(Jj st=true/\(Y5 st p).Qk=st.Qk++[(st.Qi.length+1,(Zo (st.Qi.length+1) p).length)])\/
  (Jj st=false/\ ∃S1 z,st.Qk=S1++[z]/\(Y5 st p).Qk=S1++[(z.1,z.2+(Zo (st.Qi.length+1) p).length)]):=by
 cases hf:Jj st with
 |true=>exact .inl ⟨rfl,by unfold Y5;rw [if_pos hf]⟩
 |false=>
  rcases Q1k st with h|⟨S1,z,h⟩
  ·rw [Et h] at hf;cases hf
  ·refine .inr ⟨rfl,S1,z,h,?_⟩;rw [A6 hf h]
theorem Qpk {k:Nat} {P:ByteArray} {s:Qz} {st:Jf} (h:Fit k P s st) (hk:k<=100000) {p:List UInt8} (hp:p.length<=262134) {s':Qz} (hs:Xs s'.files/\s'.room=s.room):Fit (k+1) P s' (Y5 st p):=by
 have he:=h.Qi;have hsg:=h.Qk;have hel:=Zv (st.Qi.length+1) (by omega) p;have hea:(Y5 st p).Qi=st.Qi++[p]:=rfl;have hsa:(Y5 st p).synced=st.synced:=rfl;have hsl:=h.hsl;refine ⟨by rw [hs.2];exact h.room,hs.1,λh0=>?_,?_,λz hz=>?_,?_,?_,λz hz=>?_⟩
 ·rcases Dl (st:=st) (p:=p) with ⟨_,h1⟩|⟨_,S1,z,_,h1⟩<;>rw [h1] at h0<;>simp at h0
 ·rw [hea,hsa,length_append];omega
 ·rw [hea,length_append,length_singleton];rcases Dl (st:=st) (p:=p) with ⟨_,h1⟩|⟨_,S1,z',h2,h1⟩
  ·rw [h1] at hz;rcases mem_append.1 hz with hz|hz
   ·have:=h.no z hz;omega
   ·obtain rfl:=mem_singleton.1 hz;simp only
    omega
  ·rw [h1] at hz;rcases mem_append.1 hz with hz|hz
   ·have:=h.no z (by rw [h2];exact mem_append_left _ hz);omega
   ·obtain rfl:=mem_singleton.1 hz;have:=h.no z' (by rw [h2];simp);simp only
    omega
 ·rw [hea,length_append,length_singleton];omega
 ·rcases Dl (st:=st) (p:=p) with ⟨_,h1⟩|⟨_,S1,z',h2,h1⟩
  ·rw [h1,length_append,length_singleton];omega
  ·rw [h2] at hsg;rw [h1];simp only [length_append,length_singleton] at hsg⊢;omega
 ·rcases Dl (st:=st) (p:=p) with ⟨_,h1⟩|⟨_,S1,z',h2,h1⟩
  ·rw [h1] at hz;rcases mem_append.1 hz with hz|hz
   ·have:=h.big z hz;omega
   ·obtain rfl:=mem_singleton.1 hz;simp only
    omega
  ·rw [h1] at hz;rcases mem_append.1 hz with hz|hz
   ·have:=h.big z (by rw [h2];exact mem_append_left _ hz);omega
   ·obtain rfl:=mem_singleton.1 hz;have:=h.big z' (by rw [h2];simp);simp only
    omega
theorem Q4m {k:Nat} {P:ByteArray} {s:Qz} {st:Jf} (h:Fit k P s st) (hk:k<=100000) (p:List UInt8):Fit (k+1) P (Jz P s st p).2.1 (Jz P s st p).2.2:=by
 have hm:=λ{s:Qz} {st:Jf} (h:Fit k P s st)=>h.mono (Nat.le_succ k);unfold Jz;split
 ·exact hm h
 ·split
  ·exact hm h
  ·next hpl=>
   have h1:=Qdl h;split
   ·simp only
    have h2:=Qtk h1.ok (toN P st) (Zo (st.Qi.length+1) p);split
    ·exact Qpk h1 hk (by omega) h2
    ·exact hm ((⟨by rw [h2.2];exact h1.room,h2.1,h1.hne,h1.hsl,h1.no,h1.Qi,h1.Qk,h1.big⟩:Fit k P _ _).dead _)
   ·exact hm (h1.dead _)
theorem Qep {s:Qz} {x:ByteArray} {b:List UInt8} (h:(Gy s x b).1=0):(Gy s x b).2.files=Jg s.files x b:=by
 obtain ⟨_,_,h3⟩:=I4 h;unfold Gy;rw [h3]
theorem Qeq (l:Jl) (x:ByteArray) (b:List UInt8) (y:ByteArray):(Oj (Jg l x b) y).1=if y=x then (Oj l x).1++b else (Oj l y).1:=by
 unfold Jg;cases hg:Qs l x with
 |none=>
  simp only
  unfold Oj;rw [Y7];by_cases hy:y=x
  ·rw [if_pos hy,if_pos hy,hg];rfl
  ·rw [if_neg hy,if_neg hy]
 |some c=>
  simp only
  unfold Oj;rw [Y7];by_cases hy:y=x
  ·rw [if_pos hy,if_pos hy,hg]
  ·rw [if_neg hy,if_neg hy]
theorem Aj {l:Jl} {x:ByteArray} {b:List UInt8} {p:ByteArray×Fc} (h:p∈Jg l x b):p.1=x\/ ∃q∈l,q.1=p.1:=by
 unfold Jg at h;split at h
 ·exact E5 h
 ·exact E5 h
theorem Qhh {k:Nat} {P:ByteArray} {s:Qz} {st:Jf} (h:Whole P s st) (hF:Fit k P s st) (hk:k<=100000) {p b:List UInt8} (hb:b=Zo (st.Qi.length+1) p) {s':Qz} (hs:s'.files=Jg s.files (toN P st) b):Whole P s' (Y5 st p):=by
 have he:=hF.Qi;have hea:(Y5 st p).Qi=st.Qi++[p]:=rfl;rcases Dl (st:=st) (p:=p) with ⟨hf,h1⟩|⟨hf,S1,z',h2,h1⟩
 ·have hto:toN P st=X7 P (st.Qi.length+1):=by unfold toN;rw [if_pos hf]
  have hlt: ∀z∈st.Qk,z.1<st.Qi.length+1:=by
   rcases Q1k st with h3|⟨S1,z,h3⟩
   ·rw [h3];exact λ_ h=>(by cases h)
   ·rw [Es h3,decide_eq_true_iff] at hf;have h4:=h.pos z (by rw [h3];simp) (by omega);have h5:=h.rise;rw [h3] at h5⊢;intro y hy;rcases mem_append.1 hy with hy|hy
    ·have:=(pairwise_append.1 h5).2.2 y hy z (mem_singleton.2 rfl);omega
    ·obtain rfl:=mem_singleton.1 hy;omega
  have hno:(Oj s.files (toN P st)).1=[]:=by
   refine Qe8 ?_;rw [Z5];intro hm;obtain ⟨q,hq,e⟩:=mem_map.1 hm;rw [hto] at e;obtain ⟨z,hz,e2⟩:=h.only q hq (by rw [e];exact Nh (by omega));have e3:=Ly (e.symm.trans e2);have:=hlt z hz;omega
  refine ⟨λS2 z hz=>?_,λq hq hx=>?_,?_,λz hz hp=>?_⟩
  ·rw [h1] at hz;have e4:=List.append_inj_right' hz rfl;injection e4 with e4;rw [hs,Qeq,<-e4,hto,if_pos rfl,<-hto,hno,<-hb];rfl
  ·rw [h1];rw [hs] at hq;rcases Aj hq with e|⟨q',hq',e⟩
   ·exact ⟨_,List.mem_append_right _ (mem_singleton.2 rfl),by rw [e,hto]⟩
   ·rw [<-e] at hx⊢;obtain ⟨z,hz,e2⟩:=h.only q' hq' hx;exact ⟨z,mem_append_left _ hz,e2⟩
  ·rw [h1];refine pairwise_append.2 ⟨h.rise,List.pairwise_singleton _ _,λy hy z hz=>?_⟩;obtain rfl:=mem_singleton.1 hz;exact hlt y hy
  ·rw [hea,length_append,length_singleton];rw [h1] at hz;rcases mem_append.1 hz with hz|hz
   ·have:=hlt z hz;omega
   ·obtain rfl:=mem_singleton.1 hz;exact Nat.le_refl _
 ·have hto:toN P st=X7 P z'.1:=by unfold toN;rw [if_neg (by rw [hf];simp),Fj h2]
  have hr:=h.rise;rw [h2] at hr;obtain ⟨hr1,_,hr2⟩:=pairwise_append.1 hr;refine ⟨λS2 z hz=>?_,λq hq hx=>?_,?_,λz hz hp=>?_⟩
  ·rw [h1] at hz;have e4:=List.append_inj_right' hz rfl;injection e4 with e4;rw [hs,Qeq,<-e4,hto];rw [if_pos rfl,length_append,h.tr S1 z' h2,hb]
  ·rw [h1];rw [hs] at hq
   have hlast: ∀q'∈s.files,V5 P q'.1=true-> ∃z∈S1++[(z'.1,z'.2+(Zo (st.Qi.length+1) p).length)],q'.1=X7 P z.1:=λq' hq' hx'=>by
    obtain ⟨z,hz,e2⟩:=h.only q' hq' hx';rw [h2] at hz;rcases mem_append.1 hz with hz|hz
    ·exact ⟨z,mem_append_left _ hz,e2⟩
    ·obtain rfl:=mem_singleton.1 hz;exact ⟨_,List.mem_append_right _ (mem_singleton.2 rfl),e2⟩
   rcases Aj hq with e|⟨q',hq',e⟩
   ·exact ⟨_,List.mem_append_right _ (mem_singleton.2 rfl),by rw [e,hto]⟩
   ·rw [<-e] at hx⊢;exact hlast q' hq' hx
  ·rw [h1];refine pairwise_append.2 ⟨hr1,List.pairwise_singleton _ _,λy hy z hz=>?_⟩;obtain rfl:=mem_singleton.1 hz;exact hr2 y hy z' (mem_singleton.2 rfl)
  ·rw [hea,length_append,length_singleton];rw [h1] at hz;rcases mem_append.1 hz with hz|hz
   ·have:=hF.no z (by rw [h2];exact mem_append_left _ hz);omega
   ·obtain rfl:=mem_singleton.1 hz;have:=hF.no z' (by rw [h2];simp);simp only
    omega
theorem Qhi {k:Nat} {P:ByteArray} {s:Qz} {st:Jf} (h:Whole P s st) (hF:Fit k P s st) (hk:k<=100000) (p:List UInt8) (hd0:st.dead=false) (Ba:(Jz P s st p).2.2.dead=false):Whole P (Jz P s st p).2.1 (Jz P s st p).2.2:=by
 have hsame:=Q8l P s st;have h1:=h.same (Qmg P s st) hsame.1 hsame.2.1;have hF1:=Qdl hF;unfold Jz at Ba⊢;rw [if_neg (by rw [hd0];simp)] at Ba⊢;split
 ·exact h
 ·next hpl=>
  rw [if_neg hpl] at Ba;split
  ·next h2=>
   rw [if_pos h2] at Ba;simp only at Ba⊢
   split
   ·next h3=>
    have hto:toN P (Ju P s st).2.2=toN P st:=by
     unfold toN Jj Oc;rw [hsame.1,hsame.2.1]
    refine Qhh h1 hF1 hk (b:=Zo (st.Qi.length+1) p) (by rw [hsame.1]) ?_;rw [hto];exact Qep h3
   ·next h3=>
    have e:(Gy (Ju P s st).2.1 (toN P st) (Zo (st.Qi.length+1) p)).2=(Ju P s st).2.1:=I3 h3;rw [e];exact h1.same (Xa.refl _) rfl rfl
  ·next h2=>
   rw [if_neg h2] at Ba;simp only [decide_eq_false_iff_not,ne_eq,Decidable.not_not] at Ba;exact absurd Ba (Qmi P s st)
structure Kz where
 o:Int
 after:Int
 key:ByteArray
 val:List UInt8
 gone:Bool
 ttl:Int
def Km (r:Kz):Nat:=(bits .and .i64 r.o 1023).toNat % 5
def Qgr (r:Kz):Int:=bits .and .i64 r.after 65535
theorem Q3n (x:Int): ∃v:Nat,v<=65535/\bits .and .i64 x 65535=(v:Int):=by
 have h:((BitVec.ofInt 64 x)&&&(BitVec.ofInt 64 65535)).toNat<=65535:=by
  rw [BitVec.toNat_and];exact Nat.and_le_right
 refine ⟨_,h,?_⟩;simp only [bits];unfold IntKind.wrap;have e:(2^IntKind.i64.bits:Int)=18446744073709551616:=by decide
 have e2:IntKind.i64.bits=64:=rfl;rw [e2] at e⊢;rw [e];have h2:((((BitVec.ofInt 64 x)&&&(BitVec.ofInt 64 65535)).toNat:Nat):Int)<=65535:=Int.ofNat_le.2 h;have h3:(0:Int)<=((((BitVec.ofInt 64 x)&&&(BitVec.ofInt 64 65535)).toNat:Nat):Int):=Int.natCast_nonneg _;rw [Int.emod_eq_of_lt h3 (by omega)];rw [if_neg];simp only [Bool.and_eq_true,decide_eq_true_eq,not_and];intro _;have e3:(2^(64-1):Int)=9223372036854775808:=by decide
 rw [e3];omega
theorem Qm4 (x:Int): ∃v:Nat,v<=1023/\bits .and .i64 x 1023=(v:Int):=by
 have h:((BitVec.ofInt 64 x)&&&(BitVec.ofInt 64 1023)).toNat<=1023:=by
  rw [BitVec.toNat_and];exact Nat.and_le_right
 refine ⟨_,h,?_⟩;simp only [bits];unfold IntKind.wrap;have e:(2^IntKind.i64.bits:Int)=18446744073709551616:=by decide
 have e2:IntKind.i64.bits=64:=rfl;rw [e2] at e⊢;rw [e];have h2:((((BitVec.ofInt 64 x)&&&(BitVec.ofInt 64 1023)).toNat:Nat):Int)<=1023:=Int.ofNat_le.2 h;have h3:(0:Int)<=((((BitVec.ofInt 64 x)&&&(BitVec.ofInt 64 1023)).toNat:Nat):Int):=Int.natCast_nonneg _;rw [Int.emod_eq_of_lt h3 (by omega)];rw [if_neg];simp only [Bool.and_eq_true,decide_eq_true_eq,not_and];intro _;have e3:(2^(64-1):Int)=9223372036854775808:=by decide
 rw [e3];omega
def N4 (r:Kz) (m c:Int):Qo:=if r.gone=true then ⟨m,c,(Km r:Nat),[],true,0⟩ else ⟨m,c,(Km r:Nat),r.val,false,r.ttl⟩
def Md (of:List Z1) (r:Kz):Int:=(Qn of (Km r)).m+Qgr r
def Be (of:List Z1) (r:Kz):Int:=if Qgr r=0 then (Qn of (Km r)).c+1 else (Km r:Nat)
def Xi (of:List Z1) (r:Kz):Qu:=⟨(Km r:Nat),(Qn of (Km r)).seq+1,r.key,N4 r (Md of r) (Be of r)⟩
def Gp:List Z1->List Kz->List Qu
 |_,[]=>[]
 |of,r::l=>Xi of r::Gp (Z2 of (Xi of r)) l
theorem Qec (r:Kz):Km r<5:=by unfold Km;omega
theorem Qeb (r:Kz):0<=Qgr r/\Qgr r<65536:=by
 obtain ⟨v,h1,h2⟩:=Q3n r.after;unfold Qgr;rw [h2];omega
theorem Q0x (r:Kz) (m c:Int):(N4 r m c).m=m/\(N4 r m c).c=c/\(N4 r m c).o=(Km r:Nat):=by
 unfold N4;split<;>exact ⟨rfl,rfl,rfl⟩
theorem Oe: ∀(l:List Kz) (of:List Z1),(Gp of l).length=l.length
 |[],_=>rfl
 |r::l,of=>by rw [Gp,length_cons,length_cons,Oe l]
theorem Qtf (of:List Z1) (r:Kz):(Xi of r).o.toNat=Km r:=by
 unfold Xi;simp
def Gu:List Z1->List Kz->List Z1
 |of,[]=>of
 |of,r::l=>Gu (Z2 of (Xi of r)) l
theorem Q0w: ∀(l:List Kz) (of:List Z1) (r:Kz),Gp of (l++[r])=Gp of l++[Xi (Gu of l) r]/\Gu of (l++[r])=Z2 (Gu of l) (Xi (Gu of l) r)
 |[],_,_=>⟨rfl,rfl⟩
 |x::l,of,r=>by
  obtain ⟨h1,h2⟩:=Q0w l (Z2 of (Xi of x)) r;refine ⟨?_,h2⟩;show Xi of x::Gp _ (l++[r])=_
  rw [h1];rfl
structure Q2l (k:Nat) (of:List Z1):Prop where
 five:of.length=5
 seq: ∀i,0<=(Qn of i).seq/\(Qn of i).seq<=1099511627776+k
 m: ∀i,0<=(Qn of i).m/\(Qn of i).m<=281474976710655+65535*k
 c: ∀i,0<=(Qn of i).c/\(Qn of i).c<=65535+k
theorem Q2l.step {k:Nat} {of:List Z1} (h:Q2l k of) (r:Kz):Q2l (k+1) (Z2 of (Xi of r)):=by
 have ho:=Qec r;have ha:=Qeb r;obtain ⟨v1,v2,_⟩:=Q0x r (Md of r) (Be of r);have hm:(Xi of r).v.m=Md of r:=v1;have hc:(Xi of r).v.c=Be of r:=v2;have hs:(Xi of r).seq=(Qn of (Km r)).seq+1:=rfl;have b1:=h.seq (Km r);have b2:=h.m (Km r);have b3:=h.c (Km r);have hcc:0<=Be of r/\Be of r<=65535+((k+1:Nat):Int):=by unfold Be;split<;>omega
 have hmm:0<=Md of r/\Md of r<=281474976710655+65535*((k+1:Nat):Int):=by unfold Md;omega
 have hat: ∀i,Qn (Z2 of (Xi of r)) i=if Km r=i then ⟨(Xi of r).seq,(Xi of r).v.m,(Xi of r).v.c⟩ else Qn of i:=λi=>by
  unfold Z2;rw [Qtf,Fm (by rw [h.five];omega)]
 refine ⟨by unfold Z2;rw [List.length_set];exact h.five,λi=>?_,λi=>?_,λi=>?_⟩
 ·rw [hat];split
  ·rw [hs];simp only;omega
  ·have:=h.seq i;omega
 ·rw [hat];split
  ·simp only [hm];exact hmm
  ·have:=h.m i;omega
 ·rw [hat];split
  ·simp only [hc];exact hcc
  ·have:=h.c i;omega
theorem Q2l.upto: ∀(l:List Kz) {k:Nat} {of:List Z1},Q2l k of->Q2l (k+l.length) (Gu of l)
 |[],_,_,h=>h
 |r::l,k,_,h=>by
  have:=Q2l.upto l (h.step r);rw [length_cons,show k+(l.length+1)=k+1+l.length by omega];exact this
def Cv (st:Ja) (q:Int):Ja:=if q=0 then {st with n:=st.n+1} else {st with dead:=true}
theorem Ho (st:Ja) {q:Int} (h:q=0):Cv st q={st with n:=st.n+1}:=if_pos h
theorem Kr (st:Ja) {q:Int} (h:q≠0):Cv st q={st with dead:=true}:=if_neg h
def J03 (w:World) (s d l:Nat) (P Q:ByteArray) (o:Nat) (st:Ja) (m:Nat) (cs:Zn) (ka:Option Addr) (kc:Nat) (K:List Qe) (F G:Nat->Prop) (q:Int×Qz×Jf) (w':World):Prop:=
 ∃F' G',X6 w' s d l P o (Cv st q.1) m cs ka kc K/\C0 w' d l Q q.2.1 q.2.2 F' G'/\Je F F' w/\Je G G' w/\Kp (λk=>k=s\/F k\/G k) w w'
theorem Q25 {Q:ByteArray} {ds:Qz} {lg:Jf} {p:List UInt8} (h:(Jz Q ds lg p).1.2≠0):J7 Q ds lg p=((Jz Q ds lg p).1.2,(Jz Q ds lg p).2.1,(Jz Q ds lg p).2.2):=if_neg h
theorem Q26 {Q:ByteArray} {ds:Qz} {lg:Jf} {p:List UInt8} (h:(Jz Q ds lg p).1.2=0):J7 Q ds lg p=Yi Q (Jz Q ds lg p).2.1 (Jz Q ds lg p).2.2:=if_pos h
theorem X6.Qcg {w:World} {s d l o m:Nat} {P:ByteArray} {st:Ja} {cs:Zn} {ka:Option Addr} {kc:Nat} {K:List Qe} (h:X6 w s d l P o st m cs ka kc K) (n:Nat):X6 (w.setCell ⟨s,5,none⟩ (.int .i64 (n:Int))) s d l P o {st with n:=n} m cs ka kc K:=
 h.turn ((Kp.refl (Mer.One s) w).setCell (p:=⟨s,5,none⟩) (.inl (show Mer.One s s from rfl)) _) (by have:=Ql h.cell 5 (.int .i64 (n:Int));simpa [F8] using this) rfl rfl
theorem X6.Ha {w:World} {s d l o m:Nat} {P:ByteArray} {st:Ja} {cs:Zn} {ka:Option Addr} {kc:Nat} {K:List Qe} (h:X6 w s d l P o st m cs ka kc K) (b:Bool):X6 (w.setCell ⟨s,6,none⟩ (.bool b)) s d l P o {st with dead:=b} m cs ka kc K:=
 h.turn ((Kp.refl (Mer.One s) w).setCell (p:=⟨s,6,none⟩) (.inl (show Mer.One s s from rfl)) _) (by have:=Ql h.cell 6 (.bool b);simpa [F8] using this) rfl rfl
theorem Q93 {w:World} {s d l o m:Nat} {P Q:ByteArray} {st:Ja} {cs:Zn} {ka:Option Addr} {kc:Nat} {K:List Qe} {ds:Qz} {lg:Jf} {F G:Nat->Prop} {k:Nat}
  (h:X6 w s d l P o st m cs ka kc K) (hW:C0 w d l Q ds lg F G) (Qi4: ∀i,Ve s m cs ka kc K i-> ¬F i) (Qq9: ∀i,Ve s m cs ka kc K i-> ¬G i) (hfit:Fit k Q ds lg) (hk:k<=3000) (Yo:Pow w) (Q65: ¬F 0) (Qbr: ¬G 0) (hQ:Q.size<=50) (hnb:st.n<=1000000)
  (pa:Option Addr) (pc:Nat) (p:List UInt8) (hp: ∀W,Kp (V2 F G) w W->Rd W W.heap.size pa (u8s p)) (hpl:p.length<=1000000000):
  Calls prog 60 #[.pointer (some ⟨s,0,none⟩), .slice pa p.length pc] w λe w'=>e= .returned (.int .i64 (J7 Q ds lg p).1)/\J03 w s d l P Q o st m cs ka kc K F G (J7 Q ds lg p) w':=by
 have hap:=Q9g w d l Q ds lg F G hW hfit.hne Yo Q65 Qbr hQ (by have:=hfit.Qi;omega) (by have:=hfit.Qk;omega) (λz hz=>by have:=hfit.big z hz;omega) pa pc p hp hpl;have hfa:=Q4m hfit (by omega) p;have c1:w.cell? ⟨s,1,none⟩=some (.pointer (some ⟨l,0,none⟩)):=h.at_ zK 1;have hsl:=Q7 h.cell;have Q4p:=hW.disk.lt;have Q4q:=hW.log.lt;have H:=zz h;have Qf1:=zz (And.intro Qi4 Qq9);have Kx:=zz hap;have Qhx:=zz hfa;have Qon:=zz (And.intro Q4p Q4q);have hw5:=zz (Ei st.n hnb);obtain ⟨pn,hpn⟩: ∃pn,pn=p.length:=⟨_,rfl⟩;rw [<-hpn] at Kx⊢;obtain ⟨q,hq⟩: ∃q,q=Jz Q ds lg p:=⟨_,rfl⟩;rw [<-hq] at Kx Qhx;unfold Qy2 at Kx;have hS: ∀i,Ve s m cs ka kc K i-> ¬V2 F G i:=λi hi hb=>hb.elim (Qi4 i hi) (Qq9 i hi);have HS:=zz hS;by_cases hc:q.1.2=0
 ·have hwr:=Q26 (hq▸hc);rw [<-hq] at hwr;rw [hc] at Kx;have De:=zz hwr;clear h hW Qi4 Qq9 hfit Yo Q65 Qbr hp hap hfa Q4p Q4q hpn hq hS hpl hnb hc hwr;go_enter Tryz.func60,Tryz.ntmps60
  go_wp2_with fail
  refine Kx.out.mono ?_;rintro e w2 ⟨rfl,F2,G2,hW2,hF2,hG2,k2⟩;have h2:=H.out.keep k2 HS.out;have c2:w2.cell? ⟨s,1,none⟩=some (.pointer (some ⟨l,0,none⟩)):=h2.at_ zK 1;have hsl2:=Q7 h2.cell;have hsy:=Qhg w2 d l Q q.2.1 q.2.2 F2 G2 hW2 Qhx.out.hne;unfold J02 at hsy;rw [<-De.out] at hsy
  have Qlc: ∀i,Ve s m cs ka kc K i-> ¬F2 i:=λi hi hf=>by
   rcases hF2 i hf with h1|h1
   ·exact Qf1.out.1 i hi h1
   ·have:=H.out.lt i hi;omega
  have Qld: ∀i,Ve s m cs ka kc K i-> ¬G2 i:=λi hi hf=>by
   rcases hG2 i hf with h1|h1
   ·exact Qf1.out.2 i hi h1
   ·have:=H.out.lt i hi;omega
  obtain ⟨r,hr⟩: ∃r,r=J7 Q ds lg p:=⟨_,rfl⟩;rw [<-hr] at hsy;have Q6g:=zz hsy;have H2:=zz h2;have HF2:=zz (And.intro hF2 (And.intro hG2 k2));have HS2:=zz (show ∀i,Ve s m cs ka kc K i-> ¬V2 F2 G2 i from λi hi hb=>hb.elim (Qlc i hi) (Qld i hi));have HR:=zz hr;clear hW2 hF2 hG2 k2 h2 hsy Qlc Qld hr c1;go_wp2_with fail
  refine Q6g.out.mono ?_;rintro e w3 ⟨rfl,F3,G3,hW3,hF3,hG3,k3⟩;have h3:=H2.out.keep k3 HS2.out;have Qw3:=Q7 h3.cell;have f5:=Qh h3.cell 5;have f6:=Qh h3.cell 6;have c5:w3.cell? ⟨s,5,none⟩=some (.int .i64 (st.n:Int)):=h3.at_ zK 5;have c6:w3.cell? ⟨s,6,none⟩=some (.bool st.dead):=h3.at_ zK 6;have hF:Je F F3 w:=HF2.out.1.trans hF3 HF2.out.2.2.size;have hG:Je G G3 w:=HF2.out.2.1.trans hG3 HF2.out.2.2.size
  have Qko:Kp (λi=>i=s\/F i\/G i) w w3:=(HF2.out.2.2.mono λi _ hb=> .inr hb).trans k3 λi hi hb=>by
   rcases hb with hb|hb
   ·rcases HF2.out.1 i hb with h1|h1
    ·exact .inr (.inl h1)
    ·omega
   ·rcases HF2.out.2.1 i hb with h1|h1
    ·exact .inr (.inr h1)
    ·omega
  have Q0i: ∀i,F3 i\/G3 i->i≠s:=λi hi e=>by
   rcases hi with hi|hi
   ·rcases hF i hi with h1|h1
    ·exact Qf1.out.1 s (.inl rfl) (e▸h1)
    ·omega
   ·rcases hG i hi with h1|h1
    ·exact Qf1.out.2 s (.inl rfl) (e▸h1)
    ·omega
  have H3:=zz h3;have HX:=zz (And.intro hW3 (And.intro hF (And.intro hG (And.intro Qko Q0i))));clear hW3 hF3 hG3 k3 h3 hF hG Qko Q0i Q6g;by_cases hrc:r.1=0
  ·have e1:(r.1==0)=true:=by rw [beq_iff_eq];exact hrc
   have Q7c:=hw5.out;have Q9z:=zz hrc;clear hrc;rw [Q9z.out];go_wp2_with fail
   go_ret
   refine ⟨by rw [<-HR.out,Q9z.out];rfl,F3,G3,?_,?_,HX.out.2.1,HX.out.2.2.1,?_⟩
   ·rw [<-HR.out,Ho st Q9z.out];exact H3.out.Qcg (st.n+1)
   ·rw [<-HR.out];exact ⟨HX.out.1.disk.keep ((Kp.refl (Mer.One s) w3).setCell (p:=⟨s,5,none⟩) (.inl (show Mer.One s s from rfl)) _) λi hi e=>HX.out.2.2.2.2 i (.inl hi) e,HX.out.1.log.keep ((Kp.refl (Mer.One s) w3).setCell (p:=⟨s,5,none⟩) (.inl (show Mer.One s s from rfl)) _) λi hi e=>HX.out.2.2.2.2 i (.inr hi) e,HX.out.1.sep⟩
   ·exact HX.out.2.2.2.1.setCell (p:=⟨s,5,none⟩) (.inl (.inl rfl)) _
  ·have e1:(r.1==0)=false:=by rw [beq_eq_false_iff_ne];exact hrc
   have e2:(r.1 !=0)=true:=by rw [bne,e1];rfl
   have Q9z:=zz hrc;clear hrc;go_wp2_with fail
   go_ret
   refine ⟨by rw [<-HR.out];rfl,F3,G3,?_,?_,HX.out.2.1,HX.out.2.2.1,?_⟩
   ·rw [<-HR.out,Kr st Q9z.out];exact H3.out.Ha true
   ·rw [<-HR.out];exact ⟨HX.out.1.disk.keep ((Kp.refl (Mer.One s) w3).setCell (p:=⟨s,6,none⟩) (.inl (show Mer.One s s from rfl)) _) λi hi e=>HX.out.2.2.2.2 i (.inl hi) e,HX.out.1.log.keep ((Kp.refl (Mer.One s) w3).setCell (p:=⟨s,6,none⟩) (.inl (show Mer.One s s from rfl)) _) λi hi e=>HX.out.2.2.2.2 i (.inr hi) e,HX.out.1.sep⟩
   ·exact HX.out.2.2.2.1.setCell (p:=⟨s,6,none⟩) (.inl (.inl rfl)) _
 ·have hwr:=Q25 (hq▸hc);rw [<-hq] at hwr;have De:=zz hwr;obtain ⟨z,hz⟩: ∃z,z=q.1.2:=⟨_,rfl⟩;rw [<-hz] at hc Kx;have HZ:=zz (And.intro hz hc);have e1:(z==0)=false:=by rw [beq_eq_false_iff_ne];exact hc
  have e2:(z !=0)=true:=by rw [bne,e1];rfl
  clear h hW Qi4 Qq9 hfit Yo Q65 Qbr hp hap hfa Q4p Q4q hpn hq hS hpl hnb hc hwr hz;go_enter Tryz.func60,Tryz.ntmps60
  go_wp2_with fail
  refine Kx.out.mono ?_;rintro e w3 ⟨rfl,F3,G3,hW3,hF3,hG3,k3⟩;have h3:=H.out.keep k3 HS.out;have Qw3:=Q7 h3.cell;have f6:=Qh h3.cell 6;have c6:w3.cell? ⟨s,6,none⟩=some (.bool st.dead):=h3.at_ zK 6
  have Q0i: ∀i,F3 i\/G3 i->i≠s:=λi hi e=>by
   rcases hi with hi|hi
   ·rcases hF3 i hi with h1|h1
    ·exact Qf1.out.1 s (.inl rfl) (e▸h1)
    ·omega
   ·rcases hG3 i hi with h1|h1
    ·exact Qf1.out.2 s (.inl rfl) (e▸h1)
    ·omega
  have H3:=zz h3;have HX:=zz (And.intro hW3 (And.intro hF3 (And.intro hG3 (And.intro k3 Q0i))));clear hW3 hF3 hG3 k3 h3 Q0i c1 Kx;go_wp2_with fail
  go_ret
  refine ⟨by rw [De.out,<-HZ.out.1];rfl,F3,G3,?_,?_,HX.out.2.1,HX.out.2.2.1,?_⟩
  ·rw [De.out,<-HZ.out.1,Kr st HZ.out.2];exact H3.out.Ha true
  ·rw [De.out];exact ⟨HX.out.1.disk.keep ((Kp.refl (Mer.One s) w3).setCell (p:=⟨s,6,none⟩) (.inl (show Mer.One s s from rfl)) _) λi hi e=>HX.out.2.2.2.2 i (.inl hi) e,HX.out.1.log.keep ((Kp.refl (Mer.One s) w3).setCell (p:=⟨s,6,none⟩) (.inl (show Mer.One s s from rfl)) _) λi hi e=>HX.out.2.2.2.2 i (.inr hi) e,HX.out.1.sep⟩
  ·exact (HX.out.2.2.2.1.mono λi _ hb=> .inr hb).setCell (p:=⟨s,6,none⟩) (.inl (.inl rfl)) _
theorem C0.Kf {w w':World} {d l:Nat} {P:ByteArray} {s:Qz} {st:Jf} {F G S:Nat->Prop} (h:C0 w d l P s st F G) (hk:Kp S w w') (hF: ∀k,F k-> ¬S k) (hG: ∀k,G k-> ¬S k):C0 w' d l P s st F G:=⟨h.disk.keep hk hF,h.log.keep hk hG,h.sep⟩
theorem Q8b {st:Ja} {L:List Qu} (h:V7 st L=0):L.length<=64/\(∀r∈L,Z4 r=true)/\Xx st.mm st.mc st.of L=true:=by
 unfold V7 at h;split at h
 ·cases h
 ·next h1=>
  split at h
  ·cases h
  ·next h2=>
   split at h
   ·next h3=>
    refine ⟨by omega,λr hr=>?_,h3⟩;cases ha:L.all Z4 with
    |true=>exact List.all_eq_true.1 ha r hr
    |false=>exact absurd ha h2
   ·cases h
theorem Q58 (o n:Nat): ∀(L:List Qu) (st:Ja),Jh o {st with n:=n} L={Jh o st L with n:=n}
 |[],_=>rfl
 |r::L,st=>Q58 o n L (E7 o st r)
theorem Inv.Qcg {o:Nat} {st:Ja} (h:Inv o st) (n:Nat):Inv o {st with n:=n}:=⟨h.own,h.Qoe,h.done,h.mark,h.sorted,h.keys,h.kept⟩
structure Q6n (w:World) (s d l:Nat) (P Q:ByteArray) (o:Nat) (st:Ja) (m:Nat) (cs:Zn) (ka:Option Addr) (kc:Nat) (K:List Qe) (ds:Qz) (lg:Jf) (F G:Nat->Prop):Prop where
 st:X6 w s d l P o st m cs ka kc K
 at_:C0 w d l Q ds lg F G
 sF: ∀i,Ve s m cs ka kc K i-> ¬F i
 sG: ∀i,Ve s m cs ka kc K i-> ¬G i
def Q2z (w:World) (s d l:Nat) (P Q:ByteArray) (o m:Nat) (cs:Zn) (ka:Option Addr) (kc:Nat) (K:List Qe) (F G:Nat->Prop) (B:Nat) (st':Ja) (ds':Qz) (X9:Jf) (w':World):Prop:=
 ∃cs' Ce Cf K' F' G',Q6n w' s d l P Q o st' m cs' Ce Cf K' ds' X9 F' G'/\Je (Ve s m cs ka kc K) (Ve s m cs' Ce Cf K') w/\Je F F' w/\Je G G' w/\Kp (λi=>Ve s m cs ka kc K i\/F i\/G i) w w'/\(∀p∈cs',p.2.R.length<=B)/\K'.length<=B
section
variable {w w':World} {s d l o m:Nat} {P Q:ByteArray} {st:Ja} {cs:Zn} {ka:Option Addr} {kc:Nat} {K:List Qe} {ds:Qz} {lg:Jf} {F G:Nat->Prop}
theorem Q6n.Q9 (h:Q6n w s d l P Q o st m cs ka kc K ds lg F G) (hk:Kp No w w'):Q6n w' s d l P Q o st m cs ka kc K ds lg F G:=⟨h.st.Q9 hk,h.at_.no hk,h.sF,h.sG⟩
theorem Q6n.same (h:Q6n w s d l P Q o st m cs ka kc K ds lg F G) (hk:Kp No w w') {B:Nat} (hc: ∀p∈cs,p.2.R.length<=B) (hK:K.length<=B):Q2z w s d l P Q o m cs ka kc K F G B st ds lg w':=
 ⟨cs,ka,kc,K,F,G,h.Q9 hk,λ_ h=> .inl h,λ_ h=> .inl h,λ_ h=> .inl h,Kp.Qx hk,hc,hK⟩
theorem Q6n.wrote {w8 w9:World} (h:Q6n w s d l P Q o st m cs ka kc K ds lg F G) (hk:Kp No w w8) {q:Int×Qz×Jf} (hW:J03 w8 s d l P Q o st m cs ka kc K F G q w9):
  ∃F' G',Q6n w9 s d l P Q o (Cv st q.1) m cs ka kc K q.2.1 q.2.2 F' G'/\Je F F' w/\Je G G' w/\Kp (λi=>Ve s m cs ka kc K i\/F i\/G i) w w9:=by
 obtain ⟨F',G',h1,h2,hF,hG,hk9⟩:=hW;have h8:=hk.size;have hlt:=h.st.lt;refine ⟨F',G',⟨h1,h2,λi hi hf=>?_,λi hi hf=>?_⟩,λi hi=>?_,λi hi=>?_,(Kp.Qx hk).trans hk9 λi _ hi=>?_⟩
 ·rcases hF i hf with h3|h3
  ·exact h.sF i hi h3
  ·have:=hlt i hi;omega
 ·rcases hG i hf with h3|h3
  ·exact h.sG i hi h3
  ·have:=hlt i hi;omega
 ·exact (hF i hi).imp id λh3=>by omega
 ·exact (hG i hi).imp id λh3=>by omega
 ·rcases hi with hi|hi
  ·exact .inl (.inl hi)
  ·exact .inr hi
theorem Q6n.laid {w9 w':World} {F' G':Nat->Prop} {Qwr:Ja} {ds':Qz} {X9:Jf} (h:Q6n w9 s d l P Q o Qwr m cs ka kc K ds' X9 F' G') (hF:Je F F' w) (hG:Je G G' w) (hk:Kp (λi=>Ve s m cs ka kc K i\/F i\/G i) w w9) {L:List Qu} {B n:Nat} (hn:n<=64) (hJ:Qiu w9 s d l P o Qwr m cs ka kc K L B n w'):
  Q2z w s d l P Q o m cs ka kc K F G (B+64) (Jh o Qwr (L.take n)) ds' X9 w':=by
 obtain ⟨cs',Ce,Cf,K',h1,h2,h3,h4,h5⟩:=hJ;have Bx:=h.at_.disk.lt;have Ku:=h.at_.log.lt;have hsz:=hk.size;refine ⟨cs',Ce,Cf,K',F',G',⟨h1,h.at_.Kf h3 (λk hf hs=>h.sF k hs hf) (λk hf hs=>h.sG k hs hf),λi hi hf=>?_,λi hi hf=>?_⟩,λi hi=>(h2 i hi).imp id λh6=>by omega,hF,hG,hk.trans h3 λi hi hs=> .inl hs,λp hp=>by have:=h4 p hp;omega,by omega⟩
 ·rcases h2 i hi with h6|h6
  ·exact h.sF i h6 hf
  ·have:=Bx i hf;omega
 ·rcases h2 i hi with h6|h6
  ·exact h.sG i h6 hf
  ·have:=Ku i hf;omega
theorem Qmx {k:Nat} (h:Q6n w s d l P Q o st m cs ka kc K ds lg F G) (hinv:Inv o st) (Qkc:Q=Zj P st.Zc) (hfit:Fit k Q ds lg) (hk:k<=3000) (Yo:Pow w) (Q65: ¬F 0) (Qbr: ¬G 0) (hQ:Q.size<=50) (hnb:st.n<=1000000)
  (a:Option Addr) (cap:Nat) (L:List Qe) (hL: ∀W,Kp (λi=>Ve s m cs ka kc K i\/F i\/G i) w W->Y1 W a L) (hc:L.length<=cap) (hcm:L.length<=1000000) (B:Nat) (hB:B<=900000) (hcB: ∀p∈cs,p.2.R.length<=B) (hkB:K.length<=B):
  Calls prog 18 #[.pointer (some ⟨s,0,none⟩), .slice a L.length cap] w λe w'=>e= .returned (.int .i64 (J8 P o ds st lg (L.map Qe.r)).1)/\
   Q2z w s d l P Q o m cs ka kc K F G (B+64) (J8 P o ds st lg (L.map Qe.r)).2.2.1 (J8 P o ds st lg (L.map Qe.r)).2.1 (J8 P o ds st lg (L.map Qe.r)).2.2.2 w':=by
 obtain ⟨n,Xw⟩: ∃n,n=L.length:=⟨_,rfl⟩;obtain ⟨q,hq⟩: ∃q,q=J8 P o ds st lg (L.map Qe.r):=⟨_,rfl⟩;have hsame: ∀W,Kp No w W->Q2z w s d l P Q o m cs ka kc K F G (B+64) st ds lg W:=λW hW=>h.same hW (λp hp=>by have:=hcB p hp;omega) (by omega);have hal:=Ng h.st;have hL0:=hL w zK;rw [<-hq];unfold J8 at hq;rw [<-Xw];by_cases hd:st.dead=true
 ·rw [if_pos hd] at hq hal;have Qcz:=zz hal;have HS:=zz hsame;subst hq;clear h hinv hfit Yo hL hal hsame hcB hkB hd Xw hL0 Qkc;go_enter Tryz.func18,Tryz.ntmps18
  go_wp2_with fail
  refine Qcz.out.mono ?_;rintro e w1 ⟨rfl,rfl⟩;go_wp2_with fail
  go_ret
  exact ⟨rfl,HS.out _ zK⟩
 rw [if_neg hd] at hq hal;rw [length_map,<-Xw] at hq;by_cases hn0:n=0
 ·rw [if_pos hn0] at hq;have Qcz:=zz hal;have HS:=zz hsame;subst hq;subst hn0;clear h hinv hfit Yo hL hal hsame hcB hkB hd Xw hL0 Qkc;go_enter Tryz.func18,Tryz.ntmps18
  go_wp2_with fail
  refine Qcz.out.mono ?_;rintro e w1 ⟨rfl,rfl⟩;go_wp2_with fail
  go_ret
  exact ⟨rfl,HS.out _ zK⟩
 rw [if_neg hn0] at hq;have hn1:((n:Int)==0)=false:=by rw [beq_eq_false_iff_ne];omega
 have hn1':(n==0)=false:=by rw [beq_eq_false_iff_ne];exact hn0
 have hmay:=Qmw h.st hinv.Jcx a cap L hL0 hc hcm;rw [<-Xw] at hmay;obtain ⟨my,Qbo⟩: ∃my,my=V7 st (L.map Qe.r):=⟨_,rfl⟩;rw [<-Qbo] at hmay hq;by_cases hm0:my=0
 ·rw [if_pos hm0] at hq;rw [hm0] at hmay Qbo;have hm1:((my:Int)==0)=true:=by rw [hm0];rfl
  obtain ⟨h64,hall,hg⟩:=Q8b Qbo.symm;have Ew: ∀x∈L,Z4 x.r=true:=λx hx=>hall _ (mem_map.2 ⟨x,hx,rfl⟩);have hlen:=Od hall (by rw [length_map];rwa [length_map] at h64);rw [length_map] at h64
  have Qvn: ∀W,Kp No w W->Calls prog 57 #[.slice a n cap] W (Qa5 W (Fl (L.map Qe.r))):=λW hW=>by
   rw [Xw];exact Qc8 W a cap L (hL0.kp hW) Ew h64
  obtain ⟨ll,hll⟩: ∃ll,ll=Fl (L.map Qe.r):=⟨_,rfl⟩;rw [<-hll] at Qvn hlen;obtain ⟨X,hX⟩: ∃X,X=Qq 1++ll:=⟨_,rfl⟩;obtain ⟨wq,hwq⟩: ∃wq,wq=J7 Q ds lg X:=⟨_,rfl⟩
  have hq':q=if wq.1=0 then (0,wq.2.1,{Jh o st (L.map Qe.r) with n:=st.n+1},wq.2.2) else (wq.1,wq.2.1,{st with dead:=true},wq.2.2):=by
   rw [hq,<-Qkc,hwq,hX,hll];rfl
  obtain ⟨gP,Jgl⟩: ∃g:Nat,g=0:=⟨_,rfl⟩;have Qcz:=zz hal;have HM:=zz hmay;have Qty:=zz Qvn;have HP:=zz (And.intro Yo (And.intro Q65 Qbr));have HH:=zz h;have HI:=zz hinv;have Qnz:=zz hL;have K7:=zz hfit;have Oz:=zz (And.intro hcB hkB);have J63:=zz hwq;have HQ:=zz hq';have HG:=zz (And.intro hall (And.intro Ew hg));have HN:=zz Xw;have HX:=zz hX;clear hX h hinv hfit Yo Q65 Qbr hL hal hsame hcB hkB hd hL0 Qkc hmay Qbo hq Qvn hll hwq hq' Jgl hall Ew hg Xw;go_enter Tryz.func18,Tryz.ntmps18
  go_wp2_with fail
  refine Qcz.out.mono ?_;rintro e w1 ⟨rfl,rfl⟩;go_wp2_with fail
  refine HM.out.mono ?_;rintro e w2 ⟨rfl,k2⟩;have J9:=zz k2;have HL2:=zz (Qty.out w2 k2);clear k2 Qty;go_wp2_with fail
  refine HL2.out.mono ?_;rintro e w3 ⟨a3,c3,rfl,hown3,hfr3,k3⟩;have Qyy:=zz hown3;have Zk:=zz (J9.out.Q0 k3);have Qxt:=Lv.start (Kp.refl No w3);obtain ⟨w4,hw4⟩: ∃W,W=w3.alloc (.cells #[.slice none 0 0] 121):=⟨_,rfl⟩;rw [<-hw4] at Qxt;obtain ⟨w5,hw5⟩: ∃W,W=w4.alloc (.cells #[.int .i64 1] 3):=⟨_,rfl⟩;have Q66:Kp No w4 w5:=by rw [hw5];exact (Kp.refl No w4).alloc _
  have hnu:=En w3 w5 w3.heap.size _ _ (Qxt.keep Q66) w4.heap.size 1 [1] 3 (by simp) (by rw [hw5];exact heap_alloc_new w4 _) (by decide) (by decide) (by simp) (by simp);have Cx:=zz hnu;have Qxj:=zz hw4;have Q2w:=zz hw5;clear hown3 hfr3 k3 Qxt hw4 Q66 hw5 hnu HL2 HM Qcz;go_upto_region 11 with fail
  rw [<-Qxj.out];go_wp2_with fail
  rw [<-Q2w.out];refine Cx.out.mono ?_;rintro e w6 ⟨rfl,v6,Qpw,_⟩;rw [List.nil_append,List.flatMap_cons,List.flatMap_nil,List.append_nil] at Qpw
  have Qq6:(Qq 1).length<=10:=by
   have:=J4 (n:=1) (by decide);omega
  have hra:=Qiy w3 w6 w3.heap.size v6 (Qq 1) Qpw a3 c3 ll (Rd.kp (Own.rd' Qyy.out) Qpw.kp) (by omega);rw [<-HX.out] at hra;have Qaf:=zz hra;have J3w:=zz (And.intro Qq6 hlen);clear Qpw hra Cx Qxj Q2w Qq6 hlen;go_wp2_with fail
  refine Qaf.out.mono ?_;rintro e w7 ⟨rfl,v7,J0m,_⟩;obtain ⟨_,a7,c7,rfl,_⟩:=id J0m.own
  have Qxy:X.length<=1000000000:=by
   have:=J3w.out;rw [HX.out,length_append];omega
  have hou:=Lt w7 w3.heap.size a7 c7 X J0m.cell (Own.rd' J0m.own) (by omega);have M7:=zz (Zk.out.Q0 J0m.kp);have Qd4:=zz hou;clear J0m hou Qaf Qyy Zk;go_wp2_with fail
  refine Qd4.out.mono ?_;rintro e w8 ⟨a8,c8,rfl,Qt0,J19,k8⟩;have J4q:=M7.out.Q0 k8;have h8:=HH.out.Q9 J4q;obtain ⟨hpo,Q65,Qbr⟩:=HP.out;have Bx:=HH.out.at_.disk.lt;have Ku:=HH.out.at_.log.lt
  have hwr:=Q93 h8.st h8.at_ h8.sF h8.sG K7.out hk (hpo.keep J4q) Q65 Qbr hQ hnb a8 c8 X (λW hW=>Own.rd' (Qt0.keep hW λg hg hb=>by
   have h1:=J19 g hg;have h2:=M7.out.size;rcases hb with hb|hb
   ·have:=Bx g hb;omega
   ·have:=Ku g hb;omega)) Qxy
  rw [<-J63.out] at hwr;have De:=zz hwr;have Ks:=zz J4q;clear hwr h8 J4q k8 Qt0 J19 hpo Q65 Qbr Bx Ku Qd4 M7 Qxy;obtain ⟨Qhd,N2⟩: ∃z,z=wq.1:=⟨_,rfl⟩;rw [<-N2] at De;by_cases hw0:Qhd=0
  ·have b1:(Qhd==0)=true:=by rw [beq_iff_eq];exact hw0
   have b2:(Qhd !=0)=false:=by rw [bne,b1];rfl
   have Qbt:q=(0,wq.2.1,{Jh o st (L.map Qe.r) with n:=st.n+1},wq.2.2):=by rw [HQ.out,if_pos (by rw [<-N2];exact hw0)]
   have Qu5:=zz Qbt;have HW0:=zz (show wq.1=0 by rw [<-N2];exact hw0);clear Qbt N2 hw0 hm0;go_wp2_with fail
   refine De.out.mono ?_;rintro e w9 ⟨rfl,Q2d⟩;obtain ⟨F',G',h9,Qb8,Qk9,hk9⟩:=HH.out.wrote Ks.out Q2d;rw [Ho st HW0.out] at h9;have hla:=Qgv h9.st (HI.out.Qcg _) a cap L (λW hW=>Qnz.out W (hk9.trans hW λi _ hs=> .inl hs)) hc HG.out.1 HG.out.2.2 h64 B hB Oz.out.1 Oz.out.2;have H9:=zz h9;have Qts:=zz (And.intro Qb8 (And.intro Qk9 hk9));rw [<-HN.out] at hla;have Qyn:=zz hla;clear h9 Qb8 Qk9 hk9 hla Q2d De;go_wp2_with fail
   refine Qyn.out.mono ?_;rintro e wa ⟨rfl,hJ⟩;have hT:=H9.out.laid Qts.out.1 Qts.out.2.1 Qts.out.2.2 (by rw [HN.out];exact h64) hJ;have htk:(L.map Qe.r).take n=L.map Qe.r:=List.take_of_length_le (by rw [length_map,HN.out];exact Nat.le_refl _);rw [htk,Q58] at hT;have HT:=zz hT;clear hT htk hJ Qyn;go_wp2_with fail
   go_ret
   rw [Qu5.out];exact ⟨rfl,HT.out⟩
  ·have b1:(Qhd==0)=false:=by rw [beq_eq_false_iff_ne];exact hw0
   have b2:(Qhd !=0)=true:=by rw [bne,b1];rfl
   have Qbt:q=(Qhd,wq.2.1,{st with dead:=true},wq.2.2):=by rw [HQ.out,if_neg (by rw [<-N2];exact hw0),N2]
   have Qu5:=zz Qbt;have HW0:=zz (show wq.1≠0 by rw [<-N2];exact hw0);clear Qbt N2 hm0;go_wp2_with fail
   refine De.out.mono ?_;rintro e w9 ⟨rfl,Q2d⟩;obtain ⟨F',G',h9,Qb8,Qk9,hk9⟩:=HH.out.wrote Ks.out Q2d;rw [Kr st HW0.out] at h9;have HT:=zz (show Q2z w s d l P Q o m cs ka kc K F G (B+64) {st with dead:=true} wq.2.1 wq.2.2 w9 from ⟨cs,ka,kc,K,F',G',h9,λ_ h=> .inl h,Qb8,Qk9,hk9,λp hp=>by have:=Oz.out.1 p hp;omega,by have:=Oz.out.2;omega⟩);clear h9 Qb8 Qk9 hk9 Q2d De;go_wp2_with fail
   go_ret
   rw [Qu5.out];exact ⟨rfl,HT.out⟩
 ·rw [if_neg hm0] at hq;have Qcz:=zz hal;have HS:=zz hsame;have HM:=zz hmay;have hm1:((my:Int)==0)=false:=by rw [beq_eq_false_iff_ne];omega
  have hm2:((my:Int) !=0)=true:=by rw [bne,hm1];rfl
  have Qvq:(my==0)=false:=by rw [beq_eq_false_iff_ne];exact hm0
  have hm4:(my !=0)=true:=by rw [bne,Qvq];rfl
  have J4o: ¬((my:Int)=0):=by omega
  subst hq;clear h hinv hfit Yo hL hal hsame hcB hkB hd Xw hL0 Qkc hmay Qbo;go_enter Tryz.func18,Tryz.ntmps18
  go_wp2_with fail
  refine Qcz.out.mono ?_;rintro e w1 ⟨rfl,rfl⟩;go_wp2_with fail
  refine HM.out.mono ?_;rintro e w2 ⟨rfl,k2⟩;have J9:=zz k2;clear k2;go_wp2_with fail
  go_ret
  exact ⟨rfl,HS.out _ J9.out⟩
end
theorem Qdg (a:Nat) (h:a<=1000000):(Lib.decDigits a).length<=7:=by
 have:=Nj 6 a (by omega);omega
theorem Q86 (P:ByteArray) (hP:P.size<=1000) (n:Nat) (hn:n<=1000000) (w:World) (ht:Pow w):
  Calls prog 97 #[.string P, .int .i64 (n:Int)] w λe w'=>e= .returned (.string (Zj P n))/\Kp No w w':=by
 have hd:=Q2x n hn w ht;obtain ⟨D,hD⟩: ∃D:ByteArray,D=⟨(Lib.decDigits n).toArray⟩:=⟨_,rfl⟩;rw [<-hD] at hd
 have hDs:D.size<=7:=by
  have:=Qdg n hn;rw [hD];show (Lib.decDigits n).toArray.size<=7
  simpa using this
 have HL:=zz (show (P++D)++(⟨#[46]⟩:ByteArray)=Zj P n from by
  rw [hD];apply ByteArray.ext
  unfold Zj;simp [ByteArray.data_append])
 have HC:=zz hd;clear hd hD;go_enter Tryz.func97,Tryz.ntmps97
 go_wp2_with fail
 refine HC.out.mono ?_;rintro e w1 ⟨rfl,k1⟩;have HK:=zz k1;clear k1;go_wp2_with fail
 go_ret
 exact ⟨congrArg (λs=>Ending.returned (.string s)) HL.out,HK.out⟩
theorem Q5k {w:World} {d:Nat} {s:Qz} {F:Nat->Prop} (hD:Zd w d s F) (name:ByteArray) (hn:Qs s.files name=none):
  Calls prog 94 #[.pointer (some ⟨d,0,none⟩), .string name] w λe w'=>e= .returned (.int .i64 0)/\Kp No w w':=by
 have hr:=Qiz w d s F hD name;have h2:Oj s.files name=([],7):=by unfold Oj;rw [hn]
 unfold Q6l at hr;rw [h2] at hr;have HR:=zz hr;clear hr h2 hD hn;go_enter Tryz.func94,Tryz.ntmps94
 go_wp2_with fail
 refine HR.out.mono ?_;rintro e w1 ⟨v,rfl,hown,k1,hf,hd⟩;have HK:=zz k1;clear k1 hown hf hd;go_wp2_with fail
 go_ret
 exact ⟨rfl,HK.out⟩
theorem Q95 (p q:Addr) (w:World):CallsD prog 92 #[.pointer (some p), .pointer (some q)] .returning w λe u' w'=>e= .returned (.tuple #[])/\u'= .returning/\w'=w:=by
 refine callsD_of_wpS Tryz.func92 rfl λc₀ cs hu=>?_;apply wpS_seq
 apply wpS_region
 simp [wpOpsS,go_sem,recoverD,hu,Tryz.ntmps92,Exit.thenS]
 refine wpS_of_wp ?_;have ha:(#[Value.pointer (some p),Value.pointer (some q)]++(Array.replicate 11 undef).setIfInBounds 3 Value.nilIface)= #[Value.pointer (some p),Value.pointer (some q),undef,undef,undef,Value.nilIface,undef,undef,undef,undef,undef,undef,undef]:=rfl;rw [ha];go_wp2_with fail
 cases c₀
 simp_all [bodyPostS,results,Tryz.results92]
theorem Qch {wx:World} {s b0 b1:Nat} (hp:wx.cell? ⟨b0,0,none⟩=some (.pointer (some ⟨s,0,none⟩))) (he:wx.cell? ⟨b1,0,none⟩=some (.int .i64 0)) (tmps:Array Value) (h6:tmps.getD 6 undef= .pointer (some ⟨b0,0,none⟩)) (h7:tmps.getD 7 undef= .pointer (some ⟨b1,0,none⟩)) (R:Ending->World->Prop)
  (hR:R (.returned (.tuple #[.pointer (some ⟨s,0,none⟩), .int .i64 0])) wx):
  Leaves prog Tryz.f44 tmps R [{target:= .fn (.func 92) #[.pointer (some ⟨b0,0,none⟩), .pointer (some ⟨b1,0,none⟩)],args:= #[]}] .returning wx:=by
 refine leaves_cons (f:=92) (args:= #[.pointer (some ⟨b0,0,none⟩), .pointer (some ⟨b1,0,none⟩)]) (by simp) (by simp [go_sem]) ?_;refine (Q95 ⟨b0,0,none⟩ ⟨b1,0,none⟩ wx).mono ?_;rintro e u' w'' ⟨rfl,rfl,rfl⟩;refine ⟨.tuple #[.pointer (some ⟨s,0,none⟩), .int .i64 0],?_,hR⟩;have h6':tmps[6]?.getD undef= .pointer (some ⟨b0,0,none⟩):=by rw [<-h6,Array.getD_eq_getD_getElem?]
 have Jg0:tmps[7]?.getD undef= .pointer (some ⟨b1,0,none⟩):=by rw [<-h7,Array.getD_eq_getD_getElem?]
 simp [results,Tryz.results44,go_sem,h6',Jg0,hp,he]
theorem Q0v {w:World} {d:Nat} {ds:Qz} {F:Nat->Prop} (hD:Zd w d ds F) (hds:ds.files=[]):
  Calls prog 95 #[.pointer (some ⟨d,0,none⟩)] w λe w'=> ∃a c,e= .returned (.slice a 0 c)/\Kp No w w':=by
 refine (Qf4 w d ds F hD (by rw [hds];simp)).mono ?_;rintro e w' ⟨ss,a,c,rfl,hp,_,hk⟩;rw [hds,List.map_nil] at hp;have:ss=[]:=hp.eq_nil;subst this;exact ⟨a,c,by simp [Xy],hk⟩
theorem Kj (P:ByteArray):(Zj P 0).size=P.size+2:=by
 show ((P.data.toList++(Lib.decDigits 0++[46])).toArray).size=_
 have h1:(Lib.decDigits 0).length=1:=by
  rw [Vs (by decide)];rfl
 simp [h1]
theorem J3b {w:World} {l d:Nat} {P:ByteArray} (h:w.heap[l]?=some (.cells #[.pointer (some ⟨d,0,none⟩), .string P, .slice none 0 0, .slice none 0 0, .int .i64 0, .bool false] 241 (0,0))):Gh w l d P st0 (One l):=
 ⟨.slice none 0 0, .slice none 0 0,[],⟨h,Own.nil _ _ _,Own.nil _ _ _,λ_ h=>(by cases h)⟩,rfl,(λk hk=>by
  rcases hk with h|h|h|⟨_,h,_⟩
  ·exact h
  ·cases h
  ·cases h
  ·cases h),(λk hk=>by
  rw [show k=l from hk];exact Q7 h)⟩
theorem Qrc {wx:World} {l b0 b1:Nat} (hp:wx.cell? ⟨b0,0,none⟩=some (.pointer (some ⟨l,0,none⟩))) (he:wx.cell? ⟨b1,0,none⟩=some (.int .i64 0)) (tmps:Array Value) (h4:tmps.getD 4 undef= .pointer (some ⟨b0,0,none⟩)) (h5:tmps.getD 5 undef= .pointer (some ⟨b1,0,none⟩)) (R:Ending->World->Prop)
  (hR:R (.returned (.tuple #[.pointer (some ⟨l,0,none⟩), .int .i64 0])) wx):
  Leaves prog Tryz.f99 tmps R [{target:= .fn (.func 155) #[.pointer (some ⟨b1,0,none⟩), .pointer (some ⟨b0,0,none⟩)],args:= #[]}] .returning wx:=by
 refine leaves_cons (f:=155) (args:= #[.pointer (some ⟨b1,0,none⟩), .pointer (some ⟨b0,0,none⟩)]) (by simp) (by simp [go_sem]) ?_;refine (Qaw ⟨b1,0,none⟩ ⟨b0,0,none⟩ wx).mono ?_;rintro e u' w'' ⟨rfl,rfl,rfl⟩;refine ⟨.tuple #[.pointer (some ⟨l,0,none⟩), .int .i64 0],?_,hR⟩;have h4':tmps[4]?.getD undef= .pointer (some ⟨b0,0,none⟩):=by rw [<-h4,Array.getD_eq_getD_getElem?]
 have h5':tmps[5]?.getD undef= .pointer (some ⟨b1,0,none⟩):=by rw [<-h5,Array.getD_eq_getD_getElem?]
 simp [results,Tryz.results99,go_sem,h4',h5',hp,he]
theorem Qco {w:World} {d:Nat} {P:ByteArray} {ds:Qz} {F:Nat->Prop} (hD:Zd w d ds F) (hds:ds.files=[]) (hP2:P.size<=20):
  Calls prog 99 #[.pointer (some ⟨d,0,none⟩), .string (Zj P 0)] w λe w'=> ∃l F' G',e= .returned (.tuple #[.pointer (some ⟨l,0,none⟩), .int .i64 0])/\C0 w' d l (Zj P 0) ds st0 F' G'/\Je F F' w/\(∀k,G' k->w.heap.size<=k)/\Kp F w w':=by
 have hmf: ∀(fn:Fn) (first cap:Array Value) (w:World),(Instr.makeFunc fn first cap).run prog w= .ok (.func fn first cap) w:=λ_ _ _ _=>rfl;have hsz:=Kj P;obtain ⟨Q,hQ⟩: ∃Q,Q=Zj P 0:=⟨_,rfl⟩;rw [<-hQ] at hsz⊢;have e1:decide ((Q.size:Int)<1)=false:=by rw [decide_eq_false_iff_not];omega
 have e2:decide ((50:Int)<(Q.size:Int))=false:=by rw [decide_eq_false_iff_not];omega
 have HD:=zz hD;have Qet:=zz hds;clear hD hds hQ hsz hP2;go_enter_defers Tryz.func99,Tryz.ntmps99
 go_upto_region 6 with fail
 obtain ⟨b0,hb0⟩: ∃b0,b0=w.heap.size:=⟨_,rfl⟩;rw [<-hb0];obtain ⟨W3,hW3⟩: ∃W,W=((w.alloc (.cells #[.pointer (some ⟨b0+1+1,0,none⟩)] 127)).alloc (.cells #[.int .i64 0] 47)).alloc (.cells #[.pointer (some ⟨d,0,none⟩), .string Q, .slice none 0 0, .slice none 0 0, .int .i64 0, .bool false] 241):=⟨_,rfl⟩;rw [<-hW3];have k3:Kp No w W3:=by rw [hW3];exact (((Kp.refl No w).alloc _).alloc _).alloc _
 have hs3:W3.heap.size=b0+1+1+1:=by rw [hW3,hb0];simp
 have h3l:W3.heap[b0+1+1]?=some (.cells #[.pointer (some ⟨d,0,none⟩), .string Q, .slice none 0 0, .slice none 0 0, .int .i64 0, .bool false] 241 (0,0)):=by
  rw [hW3,hb0];have:=heap_alloc_new ((w.alloc (.cells #[.pointer (some ⟨w.heap.size+1+1,0,none⟩)] 127)).alloc (.cells #[.int .i64 0] 47)) (.cells #[.pointer (some ⟨d,0,none⟩), .string Q, .slice none 0 0, .slice none 0 0, .int .i64 0, .bool false] 241 (0,0));simpa using this
 have J4c:W3.heap[b0]?=some (.cells #[.pointer (some ⟨b0+1+1,0,none⟩)] 127 (0,0)):=by
  rw [hW3,hb0];exact Jm (Jm (heap_alloc_new w _) _) _
 have A7:W3.heap[b0+1]?=some (.cells #[.int .i64 0] 47 (0,0)):=by
  rw [hW3,hb0];exact Jm ((congrArg (λk=>((w.alloc _).alloc _).heap[k]?) (by simp)).trans (heap_alloc_new (w.alloc _) _)) _
 obtain ⟨b1,hb1⟩: ∃b1,b1=b0+1:=⟨_,rfl⟩;rw [<-hb1] at h3l J4c A7 hs3⊢;obtain ⟨l,hl⟩: ∃l,l=b1+1:=⟨_,rfl⟩;rw [<-hl] at h3l J4c hs3⊢;have HB:=zz (And.intro hb0 (And.intro hb1 hl));have H3:=zz (And.intro k3 (And.intro J4c (And.intro A7 h3l)));clear hb0 hb1 hl k3 hs3 h3l J4c A7 hW3;go_wp2_with fail
 refine (Q0v (HD.out.Q9 H3.out.1) Qet.out).mono ?_;rintro e w4 ⟨na,nc,rfl,k4⟩;have H4:=zz (And.intro (H3.out.1.Q0 k4) (And.intro (k4.get H3.out.2.1 λx=>x) (And.intro (k4.get H3.out.2.2.1 λx=>x) (k4.get H3.out.2.2.2 λx=>x))));clear k4;have hnb:b0≠b1/\b0≠l/\b1≠l/\l≠b0/\l≠b1:=by have:=HB.out;omega
 have Oq:=zz hnb;have n01: ¬b0=b1:=hnb.1;have n10: ¬b1=b0:=λe=>n01 e.symm;clear hnb;go_wp2_with fail
 go_loop [6,33] (λa z=>a= .slice none 0 0/\z= .int .i64 0) (λ_ _=>0)
 case atStart=>exact ⟨rfl,rfl⟩
 case round=>
  obtain ⟨rfl,rfl⟩:=hrel;go_wp2_with fail
  go_loop [47] (λz=>z= .int .i64 0) (λ_=>0)
  case atStart=>rfl
  case round=>
   obtain rfl:=hrel;have p0:w4.cell? ⟨b0,0,none⟩=some (.pointer (some ⟨l,0,none⟩)):=Q4 H4.out.2.1 0;have p2:w4.cell? ⟨l,2,none⟩=some (.slice none 0 0):=Q4 H4.out.2.2.2 2;have z0:=Q7 H4.out.2.1;have zl:=Q7 H4.out.2.2.2;go_wp2_with fail
   go_loop [67] (λz=>z= .int .i64 0) (λ_=>0)
   case atStart=>rfl
   case round=>
    obtain rfl:=hrel;have dp: ∀W,Kp No w4 W->W.cell? ⟨b0,0,none⟩=some (.pointer (some ⟨l,0,none⟩)):=λW hW=>Q4 (hW.get H4.out.2.1 λx=>x) 0;have d3: ∀W,Kp No w4 W->W.cell? ⟨l,3,none⟩=some (.slice none 0 0):=λW hW=>Q4 (hW.get H4.out.2.2.2 λx=>x) 3;clear p0 p2;go_upto_region 23 with fail
    refine Jk (Kp No w4) [0,0,0,0,0,0,0,0,2] [0,1,2,3,4,5,6,7] 8 (by kernel_rfl) (by kernel_rfl) (λ_ n h=>h.drewN n) zK ?_;repeat (first|refine zA ?_|refine zB ?_|refine zC ?_)
    refine Yu (λn1=>?_);refine Q8 rfl rfl (λn2=>?_);obtain ⟨w5,hw5⟩: ∃W,W=(w4.drewN n1).drewN n2:=⟨_,rfl⟩;have k5:Kp No w4 w5:=by rw [hw5];exact ((Kp.refl No w4).drewN n1).drewN n2
    have J0g:=k5.get H4.out.2.2.2 λx=>x;have c5:w5.cell? ⟨l,4,none⟩=some (.int .i64 0):=Q4 J0g 4;have f5:=Qh J0g 4;have l5:=Q7 J0g;have Vb:=zz k5;have Jd8:=zz J0g;rw [<-hw5];clear hw5 k5 J0g dp d3;go_wp2_with fail
    intro nr;obtain ⟨w6,hw6⟩: ∃W,W=(w5.setCell ⟨l,4,none⟩ (.int .i64 0)).drewN nr:=⟨_,rfl⟩;have k6:Kp (Mer.One l) w5 w6:=by rw [hw6];exact ((Kp.refl (Mer.One l) w5).setCell (p:=⟨l,4,none⟩) (.inl (show Mer.One l l from rfl)) _).drewN nr
    have J4e:w6.heap[l]?=some (.cells #[.pointer (some ⟨d,0,none⟩), .string Q, .slice none 0 0, .slice none 0 0, .int .i64 0, .bool false] 241 (0,0)):=by
     rw [hw6];exact Ql Jd8.out 4 (.int .i64 0)
    have h60:=k6.get (Vb.out.get H4.out.2.1 λx=>x) Oq.out.2.1;have Quv:=k6.get (Vb.out.get H4.out.2.2.1 λx=>x) Oq.out.2.2.1;have Jiq:w6.cell? ⟨b0,0,none⟩=some (.pointer (some ⟨l,0,none⟩)):=Q4 h60 0;have Jir:w6.cell? ⟨b1,0,none⟩=some (.int .i64 0):=Q4 Quv 0;have f60:=Qh h60 0;have f61:=Qh Quv 0;have Jjb:=Q7 h60;have Jjc:=Q7 Quv;have H6:=zz (And.intro (Vb.out) (And.intro k6 (And.intro h60 (And.intro Quv J4e))));rw [<-hw6];clear hw6 k6 J4e h60 Quv c5 f5 l5;go_wp2_with fail
    obtain ⟨w7,hw7⟩: ∃W,W=(w6.setCell ⟨b0,0,none⟩ (.pointer (some ⟨l,0,none⟩))).setCell ⟨b1,0,none⟩ (.int .i64 0):=⟨_,rfl⟩;rw [<-hw7]
    have k7:Kp (λi=>i=b0\/i=b1) w6 w7:=by
     rw [hw7];exact ((Kp.refl (λi=>i=b0\/i=b1) w6).setCell (p:=⟨b0,0,none⟩) (.inl (.inl rfl)) _).setCell (p:=⟨b1,0,none⟩) (.inl (.inr rfl)) _
    obtain ⟨k5,k6,h60,Quv,J4e⟩:=H6.out;have hnb:=Oq.out;have J6v:=Ql h60 0 (.pointer (some ⟨l,0,none⟩));have J0e:=Ah J6v (p:=⟨b1,0,none⟩) hnb.1 (.int .i64 0);have h1a:=Ah Quv (p:=⟨b0,0,none⟩) (λe=>hnb.1 e.symm) (.pointer (some ⟨l,0,none⟩));have h1b:=Ql h1a 0 (.int .i64 0);rw [<-hw7] at J0e h1b;have hb:=HB.out;refine Qrc (b0:=b0) (Q4 J0e 0) (Q4 h1b 0) _ rfl rfl _ ?_;have Qux:=HD.out.lt;have Qxy:=k7.get J4e λh=>h.elim hnb.2.2.2.1 hnb.2.2.2.2;have Jg8:=J3b Qxy
    have J7q:Kp No w w6:=(H4.out.1.Q0 k5).trans k6 λi hi e=>by
     have e:i=l:=e;omega
    have J1f:Kp No w w7:=J7q.trans k7 λi hi e=>by
     omega
    refine ⟨l,F,Mer.One l,rfl,⟨HD.out.Q9 J1f,Jg8,λk hf e=>?_⟩,λ_ h=> .inl h,λk e=>?_,Kp.Qx J1f⟩
    ·have:=Qux k hf;have e:k=l:=e;omega
    ·have e:k=l:=e;omega
def J4y (w:World) (R:List Qm) (o:Option Qo) (e:Ending) (w':World):Prop:=
 match o with
 |none=>e= .returned (.tuple #[.agg #[.int .i64 0, .int .i64 0, .int .i64 0, .slice none 0 0, .bool false, .int .i64 0], .bool false])/\Kp No w w'
 |some v=> ∃y:Qm,y∈R/\y.v=v/\e= .returned (.tuple #[Yk y, .bool true])/\Kp No w w'
theorem Qnk (w:World) (p:Option Addr) (m c:Int) (h: ∀W,Kp No w W->Calls prog 135 #[.pointer p,Xl m c] W λe w'=>e= .returned (.int .i64 (-1))/\Kp No W w'):
  Calls prog 80 #[.pointer p,Xl m c] w (J4y w [] none):=by
 obtain ⟨w2,hw2⟩: ∃W,W=(w.alloc (.cells #[.int .i64 m, .int .i64 c] 25)).alloc (.cells #[.int .i64 0, .int .i64 0, .int .i64 0, .slice none 0 0, .bool false, .int .i64 0] 44):=⟨_,rfl⟩;have k2:Kp No w w2:=by rw [hw2];exact (zK.alloc _).alloc _
 have b1:w2.heap[w.heap.size]?=some (.cells #[.int .i64 m, .int .i64 c] 25 (0,0)):=by rw [hw2];exact Jm (heap_alloc_new w _) _
 have b2:w2.heap[w.heap.size+1]?=some (.cells #[.int .i64 0, .int .i64 0, .int .i64 0, .slice none 0 0, .bool false, .int .i64 0] 44 (0,0)):=by rw [hw2];exact (congrArg (λk=>((w.alloc _).alloc _).heap[k]?) (by simp)).trans (heap_alloc_new (w.alloc _) _)
 have c0:w2.cell? ⟨w.heap.size,0,none⟩=some (.int .i64 m):=Q4 b1 0;have c1:w2.cell? ⟨w.heap.size,1,none⟩=some (.int .i64 c):=Q4 b1 1;have hl1:=Q7 b1;have H:=zz (h w2 k2);have J9:=zz k2;have HB2:=zz b2;have HW2:=zz hw2;clear h k2 b1 b2 hw2;go_enter Tryz.func80,Tryz.ntmps80
 go_upto_region 1 with fail
 rw [<-HW2.out];go_wp2_with fail
 refine H.out.mono ?_;rintro e w3 ⟨rfl,k3⟩;have HB3:=zz (k3.get HB2.out λx=>x);have Zk:=zz (J9.out.Q0 k3);clear k3 c0 c1 hl1;have hl3:=Q7 HB3.out;go_wp2_with (refine Zx rfl 44 _ _ rfl (w.heap.size+1) _ rfl rfl 44 _ HB3 (by kernel_rfl) (by rfl) (by rfl) ?_)
 have b5:=Uu (cs:= #[.int .i64 0, .int .i64 0, .int .i64 0, .slice none 0 0, .bool false, .int .i64 0]) HB3.out;have d0:=Q4 b5 0;have d1:=Q4 b5 1;have d2:=Q4 b5 2;have d3:=Q4 b5 3;have d4:=Q4 b5 4;have d5:=Q4 b5 5;simp at d0 d1 d2 d3 d4 d5
 refine bodyPost_ret (v:= .tuple #[.agg #[.int .i64 0, .int .i64 0, .int .i64 0, .slice none 0 0, .bool false, .int .i64 0], .bool false]) (by simp [results,Tryz.results80,go_sem,d0,d1,d2,d3,d4,d5]) rfl ⟨rfl,Zk.out.setRow (.inr (by omega)) _⟩
theorem Qnl (w:World) (k0:Zs) (m c:Int) (hc:Xr 148 w k0) (hs:Q45 k0.vs) (hn:k0.R.length<=1000000) (v:Qo) (hv:Qau k0.vs m c=some v):
  Calls prog 80 #[.pointer (some ⟨k0.b,0,none⟩),Xl m c] w (J4y w k0.R (some v)):=by
 obtain ⟨u,hu1,hu2⟩:=Lw hv;have hup:=λW (h:Kp No w W)=>Q28 W k0 m c (hc.Q9 h) hs hn;rw [hu1] at hup;obtain ⟨cb,ra,rc,R⟩:=k0;obtain ⟨n,hnR⟩: ∃n,n=R.length:=⟨_,rfl⟩;have hrow:(⟨cb,ra,rc,R⟩:Zs).row= .slice ra n rc:=by unfold Zs.row;rw [hnR]
 have hR:Rd w w.heap.size ra (R.flatMap Qv):=by have:=Own.rd' (a:=ra) (cap:=rc) (m:=R.length) hc.own;exact this
 have hu2:(R.map Qm.v)[u]?=some v:=hu2;rw [List.getElem?_map] at hu2;obtain ⟨x,hx,hxv⟩:=Option.map_eq_some_iff.1 hu2;have J2m:=(List.getElem?_eq_some_iff.1 hx).1;have hxe:R[u]=x:=(List.getElem?_eq_some_iff.1 hx).2;have hxo:x.ok w:=hc.vals x (mem_of_getElem? hx);obtain ⟨g,off,rfl,hgl,hgr⟩:=Vz hR J2m;rw [hxe] at hgr;have hun:u<n:=by omega
 obtain ⟨w2,hw2⟩: ∃W,W=(w.alloc (.cells #[.int .i64 m, .int .i64 c] 25)).alloc (.cells #[.int .i64 0, .int .i64 0, .int .i64 0, .slice none 0 0, .bool false, .int .i64 0] 44):=⟨_,rfl⟩;have k2:Kp No w w2:=by rw [hw2];exact (zK.alloc _).alloc _
 have b1:w2.heap[w.heap.size]?=some (.cells #[.int .i64 m, .int .i64 c] 25 (0,0)):=by rw [hw2];exact Jm (heap_alloc_new w _) _
 have b2:w2.heap[w.heap.size+1]?=some (.cells #[.int .i64 0, .int .i64 0, .int .i64 0, .slice none 0 0, .bool false, .int .i64 0] 44 (0,0)):=by rw [hw2];exact (congrArg (λk=>((w.alloc _).alloc _).heap[k]?) (by simp)).trans (heap_alloc_new (w.alloc _) _)
 have c0:w2.cell? ⟨w.heap.size,0,none⟩=some (.int .i64 m):=Q4 b1 0;have c1:w2.cell? ⟨w.heap.size,1,none⟩=some (.int .i64 c):=Q4 b1 1;have hl1:=Q7 b1;have hcb:=Q7 hc.cell;simp only at hcb
 have hw3:((u+1:Nat):Int)-1=(u:Int):=by push_cast;omega
 rw [hw3] at hup;have hub:u<=1000001:=by simp only at hn;omega
 clear hw3;have H:=zz (hup w2 k2);have J9:=zz k2;have HB2:=zz b2;have HW2:=zz hw2;have HC:=zz hc;have Mo:=zz hrow;have Qhy:=zz hgr;have HX:=zz (And.intro hxv (mem_of_getElem? hx));clear hup k2 b1 b2 hw2 hc hrow hgr hxv hxo hnR hR hu2 hx hxe J2m hu1 hv hs;go_enter Tryz.func80,Tryz.ntmps80
 go_upto_region 1 with fail
 rw [<-HW2.out];go_wp2_with fail
 refine H.out.mono ?_;rintro e w3 ⟨rfl,k3⟩;have HB3:=zz (k3.get HB2.out λx=>x);have Zk:=zz (J9.out.Q0 k3);clear k3 c0 c1 hl1;have hl3:=Q7 HB3.out
 have f0:w3.cell? ⟨cb,0,none⟩=some (.slice (some ⟨g,off,none⟩) n rc):=by
  have:=HC.out.cells.1 w3 Zk.out;rw [Mo.out] at this;exact this
 have Qs4:=zz (Qhy.out w3 Zk.out);have hcb3:=Zk.out.lt hcb;have hg3:=Zk.out.lt hgl;go_upto_region 4 with fail
 simp only [Qv] at Qs4
 go_wp2_with (first
  |(refine Qj rfl 44 _ rfl g (off+u*6) rfl _ _ Qs4 Tryz.underlying44 rfl (by kernel_rfl) ?_)
  |(refine Zx rfl 44 _ _ rfl (w.heap.size+1) _ rfl rfl 44 _ HB3 (by kernel_rfl) (by rfl) (by rfl) ?_))
 have b5:=Uu (cs:= #[.int .i64 x.v.m, .int .i64 x.v.c, .int .i64 x.v.o,x.sl, .bool x.v.gone, .int .i64 x.v.ttl]) HB3.out;have d0:=Q4 b5 0;have d1:=Q4 b5 1;have d2:=Q4 b5 2;have d3:=Q4 b5 3;have d4:=Q4 b5 4;have d5:=Q4 b5 5;simp at d0 d1 d2 d3 d4 d5
 refine bodyPost_ret (v:= .tuple #[.agg #[.int .i64 x.v.m, .int .i64 x.v.c, .int .i64 x.v.o,x.sl, .bool x.v.gone, .int .i64 x.v.ttl], .bool true]) (by simp [results,Tryz.results80,go_sem,d0,d1,d2,d3,d4,d5]) rfl ⟨x,HX.out.2,HX.out.1,rfl,Zk.out.setRow (.inr (by omega)) _⟩
def Qy6 (w:World) (R:List Qm) (o:Option (List UInt8)) (e:Ending) (w':World):Prop:=
 match o with
 |none=>e= .returned (.tuple #[.slice none 0 0, .bool false])/\Kp No w w'
 |some l=> ∃y:Qm,y∈R/\y.v.val=l/\e= .returned (.tuple #[y.sl, .bool true])/\Kp No w w'
theorem Q9p (w:World) (R:List Qm) (p:Option Addr) (m c:Int) (o:Option Qo) (hm:m<=9223372036854775807) (h: ∀W,Kp No w W->Calls prog 80 #[.pointer p,Xl m c] W (J4y W R o)) (hv: ∀v,o=some v->X8 v=true):
  Calls prog 28 #[.pointer p,Xl m c] w (Qy6 w R (Qcl o m c)):=by
 obtain ⟨w1,hw1⟩: ∃W,W=w.alloc (.cells #[.int .i64 m, .int .i64 c] 25):=⟨_,rfl⟩;have k1:Kp No w w1:=by rw [hw1];exact zK.alloc _
 have b1:w1.heap[w.heap.size]?=some (.cells #[.int .i64 m, .int .i64 c] 25 (0,0)):=by rw [hw1];exact heap_alloc_new w _
 have c0:w1.cell? ⟨w.heap.size,0,none⟩=some (.int .i64 m):=Q4 b1 0;have c1:w1.cell? ⟨w.heap.size,1,none⟩=some (.int .i64 c):=Q4 b1 1;have hl1:=Q7 b1;have H:=zz (h w1 k1);have Yq:=zz k1;have HB1:=zz b1;have HW1:=zz hw1;clear h k1 b1 hw1;cases o with
 |none=>
  go_enter Tryz.func28,Tryz.ntmps28
  go_upto_region 1 with fail
  rw [<-HW1.out];go_wp2_with fail
  refine H.out.mono ?_;rintro e w3 ⟨rfl,k3⟩;have Zk:=zz (Yq.out.Q0 k3);clear k3 c0 c1 hl1;go_wp2_with fail
  go_ret2
  exact ⟨rfl,Zk.out.alloc _⟩
 |some v=>
  have hvv:=hv v rfl;have HVV:=zz hvv;clear hv hvv;go_enter Tryz.func28,Tryz.ntmps28
  go_upto_region 1 with fail
  rw [<-HW1.out];go_wp2_with fail
  refine H.out.mono ?_;rintro e w3 ⟨y,hyo,hyv,rfl,k3⟩;simp only [Yk,Qv];have Zk:=zz (Yq.out.Q0 k3);have HB3:=zz (k3.get HB1.out λx=>x);have HY:=zz (And.intro hyv hyo);clear k3 c0 c1 hl1 hyv hyo;go_upto_region 2 with (refine Qy rfl 44 _ _ rfl w3.heap.size (by rfl) _ _ _ rfl rfl (by kernel_rfl) (by rfl) (by rfl) ?_)
  obtain ⟨w5,hw5⟩: ∃W,W=w3.alloc (.cells #[.int .i64 y.v.m, .int .i64 y.v.c, .int .i64 y.v.o,y.sl, .bool y.v.gone, .int .i64 y.v.ttl] 44):=⟨_,rfl⟩;have k5:Kp No w3 w5:=by rw [hw5];exact zK.alloc _
  have b5:w5.heap[w3.heap.size]?=some (.cells #[.int .i64 y.v.m, .int .i64 y.v.c, .int .i64 y.v.o,y.sl, .bool y.v.gone, .int .i64 y.v.ttl] 44 (0,0)):=by rw [hw5];exact heap_alloc_new w3 _
  rw [<-hw5];have d0:w5.cell? ⟨w3.heap.size,0,none⟩=some (.int .i64 y.v.m):=Q4 b5 0;have d1:w5.cell? ⟨w3.heap.size,1,none⟩=some (.int .i64 y.v.c):=Q4 b5 1;have d2:w5.cell? ⟨w3.heap.size,2,none⟩=some (.int .i64 y.v.o):=Q4 b5 2;have d3:w5.cell? ⟨w3.heap.size,3,none⟩=some y.sl:=Q4 b5 3;have d4:w5.cell? ⟨w3.heap.size,4,none⟩=some (.bool y.v.gone):=Q4 b5 4;have d5:w5.cell? ⟨w3.heap.size,5,none⟩=some (.int .i64 y.v.ttl):=Q4 b5 5;have c0:w5.cell? ⟨w.heap.size,0,none⟩=some (.int .i64 m):=Q4 (k5.get HB3.out λx=>x) 0;have c1:w5.cell? ⟨w.heap.size,1,none⟩=some (.int .i64 c):=Q4 (k5.get HB3.out λx=>x) 1;have hl5:=Q7 b5;have Jgr:=Q7 (k5.get HB3.out λx=>x);have Vb:=zz k5;have Q2u:=zz b5;have hsn:=Qho y (by rw [HY.out.1];exact HVV.out) m c hm w5;rw [HY.out.1] at hsn;have Qzi:=zz hsn;clear hw5 k5 b5 hsn;cases hse:N8 v m c with
  |true=>
   have Qip:=zz hse;clear hse;go_wp2_with fail
   refine Qzi.out.mono ?_;rintro e w6 ⟨rfl,k6⟩;rw [Qip.out];have h3:w6.cell? ⟨w3.heap.size,3,none⟩=some y.sl:=Q4 (k6.get Q2u.out λx=>x) 3;have Qxy:=Q7 (k6.get Q2u.out λx=>x);have Fw:=zz k6;clear k6 d0 d1 d2 d3 d4 d5 c0 c1;go_wp2_with fail
   go_ret2
   rw [Qen Qip.out,<-HY.out.1];exact ⟨y,HY.out.2,rfl,rfl,(Zk.out.Q0 Vb.out).Q0 Fw.out⟩
  |false=>
   have Qip:=zz hse;clear hse;go_wp2_with fail
   refine Qzi.out.mono ?_;rintro e w6 ⟨rfl,k6⟩;rw [Qip.out];have Fw:=zz k6;clear k6 d0 d1 d2 d3 d4 d5 c0 c1;go_wp2_with fail
   go_ret2
   rw [Qnf Qip.out];exact ⟨rfl,(Zk.out.Q0 Vb.out).Q0 Fw.out⟩
def Qto (l:List Qo) (st:Ja) (t1 t2:Int) (w:World) (v:Value) (b:Bool) (er:Int):Prop:=
 (Zq t1 t2 st.mm st.mc=true/\b=false/\er=19)\/(Zq t1 t2 st.mm st.mc=false/\er=0/\((Uh l t1 t2=none/\v= .slice none 0 0/\b=false)\/ ∃u a cap,Uh l t1 t2=some u/\v= .slice a u.length cap/\b=true/\Rd w w.heap.size a (u8s u)))
theorem Qut {W w':World} {k:ByteArray} {t1 t2:Int} {st:Ja} {l:List Qo} {e:Ending} (h:Qcy W (Eu st k t1 t2) e w') (hg:Zq t1 t2 st.mm st.mc=false->Uh (Qw st.keys k) t1 t2=Uh l t1 t2):
  ∃v b er,e= .returned (.tuple #[v, .bool b, .int .i64 er])/\Kp No W w'/\Qto l st t1 t2 w' v b er:=by
 cases hs:Zq t1 t2 st.mm st.mc with
 |true=>
  rw [Q4n hs] at h;exact ⟨_,_,_,h.1,h.2, .inl ⟨hs,rfl,rfl⟩⟩
 |false=>
  rw [I7 (by rw [hs];decide),hg hs] at h;cases hc:Uh l t1 t2 with
  |none=>
   rw [hc] at h;exact ⟨_,_,_,h.1,h.2, .inr ⟨hs,rfl, .inl ⟨hc,rfl,rfl⟩⟩⟩
  |some u=>
   rw [hc] at h;obtain ⟨a,cap,h1,h2,h3,h4⟩:=h;exact ⟨_,_,_,h1,h4, .inr ⟨hs,rfl, .inr ⟨u,a,cap,hc,rfl,rfl,h2.rd'⟩⟩⟩
theorem Q53 {l:List Qo} {t1 t2:Int} {u:List UInt8} (hv: ∀v∈l,X8 v=true) (h:Uh l t1 t2=some u):u.length<=1000000:=by
 rw [I6] at h;cases ho:Qau l t1 t2 with
 |none=>rw [ho] at h;cases h
 |some v=>
  rw [ho] at h;obtain ⟨i,_,hu⟩:=Lw ho;have h1:=(Zi.1 (hv v (mem_of_getElem? hu)));unfold Qcl at h;simp only at h
  split at h
  ·injection h with h;have h2:=h1.2.2.2.1;rw [<-h];omega
  ·cases h
theorem Q43 (w:World) (c:Zs) (t1 t2:Int) (ht:t1<=9223372036854775807) (hc:Xr 148 w c) (hs:Q45 c.vs) (hn:c.R.length<=1000000) (hv: ∀v∈c.vs,X8 v=true):
  Calls prog 28 #[.pointer (some ⟨c.b,0,none⟩),Xl t1 t2] w (Qy6 w c.R (Uh c.vs t1 t2)):=by
 cases h:Qau c.vs t1 t2 with
 |none=>
  have h0:=Q6q.1 h;have hg:Uh c.vs t1 t2=none:=by rw [I6,h];rfl
  rw [hg];refine (Q9p w [] (some ⟨c.b,0,none⟩) t1 t2 none ht (λW hW=>?_) (λv hv=>by cases hv)).mono ?_
  ·refine Qnk W _ t1 t2 λW' hW'=>?_;have:=Q28 W' c t1 t2 (hc.Q9 (hW.Q0 hW')) hs hn;rw [h0] at this;exact this
  ·intro e w' hq;exact hq
 |some v=>
  have hg:Uh c.vs t1 t2=Qcl (some v) t1 t2:=by rw [I6,h]
  rw [hg];refine Q9p w c.R (some ⟨c.b,0,none⟩) t1 t2 (some v) ht (λW hW=>?_) (λv' hv'=>?_)
  ·exact Qnl W c t1 t2 (hc.Q9 hW) hs hn v h
  ·injection hv' with hv';subst hv';unfold Qau at h;split at h
   ·cases h
   ·exact hv _ (mem_of_getElem? h)
theorem Qto.new {l:List Qo} {st:Ja} {t1 t2:Int} {w:World} {v:Value} {b:Bool} {er:Int} (h:Qto l st t1 t2 w v b er) (hn: ¬Zq t1 t2 st.mm st.mc=true):
  er=0/\((Uh l t1 t2=none/\v= .slice none 0 0/\b=false)\/ ∃u a cap,Uh l t1 t2=some u/\v= .slice a u.length cap/\b=true/\Rd w w.heap.size a (u8s u)):=by
 rcases h with h|h
 ·exact absurd h.1 hn
 ·exact h.2
def J51 (q:Option (List UInt8)×Int) (w:World) (v:Value) (b:Bool) (er:Int):Prop:=
 ∃a cap,v= .slice a (q.1.getD []).length cap/\Rd w w.heap.size a (u8s (q.1.getD []))/\b=q.1.isSome/\er=q.2
def Qoi (w:World) (q:Option (List UInt8)×Int) (e:Ending) (w':World):Prop:= ∃v b er,e= .returned (.tuple #[v, .bool b, .int .i64 er])/\Kp No w w'/\J51 q w' v b er
theorem Qps {w w':World} {q:Option (List UInt8)×Int} {e:Ending} (h:Qcy w q e w'):Qoi w q e w':=by
 obtain ⟨o,er⟩:=q;cases o with
 |none=>exact ⟨_,_,_,h.1,h.2,none,0,rfl,Rd.nil _ _ _,rfl,rfl⟩
 |some u=>
  obtain ⟨a,cap,h1,h2,h3,h4⟩:=h;exact ⟨_,_,_,h1,h4,a,cap,rfl,h2.rd',rfl,rfl⟩
end Go.Proofs.YtgnkmjeoaoongaaGreatDoor
