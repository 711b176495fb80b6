/-
  WPlain, Args, WName, Fin.
-/
import Derived.Test.YtgnkmjeoaoongaaGreatDoorXa1
import Derived.ProofKit
import Derived.SizedLaws
import Derived.Deep.Matrix
import Derived.Lib.ItoaNum
namespace Go.Mer
open Go
def Jy (v:Nat):List UInt8:=[UInt8.ofNat v,UInt8.ofNat (v/256),UInt8.ofNat (v/65536),UInt8.ofNat (v/16777216)]
theorem Lb (n:Nat):(UInt8.ofNat n).toNat=n % 256:=UInt8.toNat_ofNat'
theorem Qs (v:Nat):(Jy v).length=4:=rfl
def Er (n:Nat):List UInt8:=Jy n++Jy (crc (Jy n))
theorem Z8 (n:Nat):(Er n).length=8:=rfl
def X9 (p:List UInt8):List UInt8:=Er p.length++p
def Jc (p:List UInt8):List UInt8:=X9 p++Jy (crc (X9 p))
theorem Q0h (p:List UInt8):(Jc p).length=p.length+12:=by
 unfold Jc X9;rw [List.length_append,List.length_append,Z8,Qs];omega
def Ql (n:Nat):List UInt8:=if h:n<128 then [UInt8.ofNat n] else UInt8.ofNat (n % 128+128)::Ql (n/128)
termination_by n
decreasing_by omega
theorem Xe {n:Nat} (h:n<128):Ql n=[UInt8.ofNat n]:=by rw [Ql,dif_pos h]
theorem Q1f {n:Nat} (h: ¬n<128):Ql n=UInt8.ofNat (n % 128+128)::Ql (n/128):=by rw [Ql,dif_neg h]
theorem Ju (k:Nat): ∀n,n<128^(k+1)->(Ql n).length<=k+1:=by
 induction k with
 |zero=>intro n h;rw [Xe (by simpa using h)];simp
 |succ k ih=>
  intro n h;by_cases hn:n<128
  ·rw [Xe hn];simp
  ·rw [Q1f hn,List.length_cons];have:=ih (n/128) (by rw [Nat.pow_succ] at h;omega);omega
open Go.ChangeShapes Go.WideShapes Go.ChangeAt Go.RowKit Go.Deep
structure Row where
 a:Option Addr
 cap:Nat
 data:List UInt8
def Row.val (r:Row):Value:= .slice r.a r.data.length r.cap
structure X8 (w:World) (a:Option Addr) (R:List Row):Prop where
 top:Rd w w.heap.size a (R.map Row.val)
 each: ∀r∈R,Rd w w.heap.size r.a (u8s r.data)/\r.data.length<=140737488355328
section
variable {w W:World} {a:Option Addr} {R:List Row}
theorem X8.at_ (h:X8 w a R) (hk:Kp No w W) {j:Nat} (hj:j<R.length):
  ∃g off,a=some ⟨g,off,none⟩/\g<w.heap.size/\W.cell? ⟨g,off+j,none⟩=some (.slice R[j].a R[j].data.length R[j].cap)/\Rd W w.heap.size R[j].a (u8s R[j].data)/\R[j].data.length<=140737488355328:=by
 obtain ⟨g,off,ha,hg,_,hc⟩:=h.top.at_ (i:=j) (u:=R[j].val) (by simp [hj]);obtain ⟨h1,h2⟩:=h.each R[j] (List.getElem_mem hj);exact ⟨g,off,ha,hg,(hk.cell hg λx=>x).trans hc,h1.keep hk λ_ _ x=>x,h2⟩
end
def J32 (n:Int):UInt8:=UInt8.ofNat n.toNat
theorem Qrx {n:Int} (h:(Lit.int .u8 n).wf=true):u8 (J32 n)= .int .u8 n:=by
 have h1:IntKind.u8.min=0:=rfl;have h2:IntKind.u8.max=255:=rfl;simp only [Lit.wf,Bool.and_eq_true,decide_eq_true_eq,h1,h2] at h;unfold u8 J32;rw [UInt8.toNat_ofNat_of_lt' (by show n.toNat<256;omega)];congr 1
 omega
section
variable {H:Type} {enc:TypeId×Value->H} {P:Program} {W:World} {ts:List TypeId} {ds:List (DataW H)}
theorem Ko {e:TypeId}: ∀{l:List (DataW H)} {d:DataW H},d∈l-> ∀n∈d.weights P e,n∈DataW.weightsAll P e l
 |d'::r,d,hd,n,hn=>by
  simp only [DataW.weightsAll,List.mem_append];rcases List.mem_cons.1 hd with rfl|h
  ·exact Or.inl hn
  ·exact Or.inr (Ko h n hn)
theorem Q61:reachBytes=140737488351232:=rfl
theorem N1 (hl:laidOutB P=true) {W':World} (hb:Below W.heap.size W W'): ∀{ts:List TypeId} {vs:List Value} {ds:List (DataW H)} {ps:List MemPlace},(∀t∈ts,P.readableRec t=true/\t<P.types.size)->
  DataW.TrodAll enc P W 0 (λ_=>true) true ts vs ds ps->(∀x∈ps,x.block<W.heap.size)->DataW.TrodAll enc P W' 0 (λb=>decide (b<W.heap.size)) true ts vs ds ps
 |[],[],[],_,_,h,_=>h
 |t::ts,v::vs,d::ds,ps,ht,⟨p,q,h1,h2,hp⟩,hlt=>by
  obtain ⟨hr,hs⟩:=ht t (List.mem_cons_self ..);refine ⟨p,q,Below.trod hl hr hs h1 hb λx hx=>hlt x (by rw [hp];simp [hx]),N1 hl hb (λt h=>ht t (List.mem_cons_of_mem _ h)) h2 λx hx=>hlt x (by rw [hp];simp [hx]),hp⟩
theorem Qhu {f:Func} {s:ChangeSpec} {W':World} {args:Array Value} {p q:List MemPlace} {tb:TypeId} (hl:laidOutB P=true) (hall: ∀t∈f.params.toList,P.readableRec t=true/\t<P.types.size)
  (hb0:f.resultTypes= #[tb]) (hb1:P.underlying tb=some .bool) (hv:s.vars=[]) (hr:(s.fn H ds).results=[.lit (.bool true)]) (ha:(s.fn H ds).args=ds) (hs:(s.fn H ds).vars=[])
  (hW:DataW.Whole enc P f.params.toList s.vars false W args.toList ds [] (p++q)) (hA:DataW.TrodAll enc P W 0 (λ_=>true) true f.params.toList args.toList ds p) (hk:Kp No W W'):
  s.post enc P f false true false false W args (.bool true) W':=by
 have hlt: ∀x∈p,x.block<W.heap.size:=λx hx=>hW.lt x (List.mem_append_left _ hx);have hbw:Below W.heap.size W W':=hk.below (Nat.le_refl _) λ_ _ x=>x;refine ⟨ds,[],p++q,[],p,[],hW,?_,?_,?_,hbw.frame _,λh=>by cases h⟩
 ·rw [List.append_nil,hr,hb0];exact trodAll_mk1 ⟨1,by simp [DataW.trod,Value.cells,hb1]⟩
 ·rw [List.append_nil,ha];exact N1 hl hbw hall hA hlt
 ·rw [List.append_nil,hs,hv];rfl
end
def Quo (c:UInt8):Bool:=decide (48<=c.toNat)&&decide (c.toNat<=57)
def Qbo:Nat->List UInt8->Nat
 |a,[]=>a
 |a,c::r=>Qbo (10*a+(c.toNat-48)) r
theorem Mf (a:Nat) (c:UInt8) (r:List UInt8):Qbo a (c::r)=Qbo (10*a+(c.toNat-48)) r:=by
 conv=>lhs;whnf
theorem Q7u (l r:List UInt8): ∀a,Qbo a (l++r)=Qbo (Qbo a l) r:=by
 induction l with
 |nil=>intro a;rfl
 |cons c q ih=>intro a;rw [List.cons_append,Mf,Mf];exact ih _
theorem Q9r (a:Nat) (c:UInt8):Qbo a [c]=10*a+(c.toNat-48):=by rw [Mf];rfl
theorem Mh (n:Nat):Quo (UInt8.ofNat (48+n % 10))=true/\(UInt8.ofNat (48+n % 10)).toNat=48+n % 10:=by
 have e:(UInt8.ofNat (48+n % 10)).toNat=48+n % 10:=by rw [Lb];omega
 refine ⟨?_,e⟩;unfold Quo;rw [e,Bool.and_eq_true,decide_eq_true_iff,decide_eq_true_iff];omega
theorem K7 {u:Nat} (h: ¬u<10):Lib.decDigits u=Lib.decDigits (u/10)++[UInt8.ofNat (48+u % 10)]:=by
 rw [Lib.decDigits,dif_neg h]
theorem V6 {u:Nat} (h:u<10):Lib.decDigits u=[UInt8.ofNat (48+u % 10)]:=by
 rw [Lib.decDigits,dif_pos h,Nat.mod_eq_of_lt h]
theorem Qbq (u:Nat):(Lib.decDigits u).all Quo=true:=by
 induction u using Nat.strongRecOn with
 |_ u ih=>
  by_cases h:u<10
  ·rw [V6 h,List.all_cons,(Mh u).1];rfl
  ·rw [K7 h,List.all_append,ih (u/10) (by omega),List.all_cons,(Mh u).1];rfl
theorem Qbr (u:Nat):Qbo 0 (Lib.decDigits u)=u:=by
 induction u using Nat.strongRecOn with
 |_ u ih=>
  by_cases h:u<10
  ·rw [V6 h,Q9r,(Mh u).2];omega
  ·rw [K7 h,Q7u,ih (u/10) (by omega),Q9r,(Mh u).2];omega
theorem D6 (k:Nat): ∀u,u<10^(k+1)->(Lib.decDigits u).length<=k+1:=by
 induction k with
 |zero=>intro u h;rw [V6 (by simpa using h)];simp
 |succ k ih=>
  intro u h;by_cases h1:u<10
  ·rw [V6 h1];simp
  ·rw [K7 h1,List.length_append];have:=ih (u/10) (by rw [Nat.pow_succ] at h;omega);simp only [List.length_singleton];omega
def Q5s (n:Nat):List UInt8:=List.replicate (8-(Lib.decDigits n).length) 48++Lib.decDigits n
theorem Qbp (k:Nat) (l:List UInt8):Qbo 0 (List.replicate k 48++l)=Qbo 0 l:=by
 induction k with
 |zero=>rfl
 |succ k ih=>
  rw [List.replicate_succ,List.cons_append,Mf];exact ih
theorem A6 (n:Nat):Qbo 0 (Q5s n)=n:=by
 unfold Q5s;rw [Qbp,Qbr]
theorem Qhr (n:Nat):(Q5s n).all Quo=true:=by
 unfold Q5s;rw [List.all_append,Qbq,Bool.and_true,List.all_eq_true];intro x hx;rw [List.eq_of_mem_replicate hx];rfl
theorem Qhs {n:Nat} (h:n<100000000):(Q5s n).length=8:=by
 have:=D6 7 n h;unfold Q5s;rw [List.length_append,List.length_replicate];omega
def Ms (p:List UInt8) (n:Nat):List UInt8:=p++Q5s n
def Qi8 (p s:List UInt8):Option Nat:=if p.isPrefixOf s&&decide ((s.drop p.length).length=8)&&(s.drop p.length).all Quo then some (Qbo 0 (s.drop p.length)) else none
theorem Q8q (p:List UInt8) {n:Nat} (h:n<100000000):Qi8 p (Ms p n)=some n:=by
 unfold Qi8 Ms
 have h1:p.isPrefixOf (p++Q5s n)=true:=by
  rw [List.isPrefixOf_iff_prefix];exact List.prefix_append _ _
 rw [List.drop_left,h1,Qhs h,Qhr,A6];rfl
theorem Qc8 {p:List UInt8} {m n:Nat} (h:Ms p m=Ms p n):m=n:=by
 have:=congrArg (Qbo 0) (List.append_cancel_left h);rwa [A6,A6] at this
section
variable {P:Program} {ops:Array Oper} {Q:Exit->Act->World->Prop} {S:World->Prop} {ks:List Nat} {z:Nat}
def Qba (P:Program) (ops:Array Oper) (z:Nat) (Q:Exit->Act->World->Prop):Nat->Array Bool->Act->World->Prop
 |0,_,_,_=>False
 |fuel+1,listed,a,w=>
  Region.ready .any ops listed≠[]/\
  ∀i∈Region.ready .any ops listed,∀o,ops[i]?=some o->
   if i=z then ∀n,wpOp P ops Q i (wpAny P .any ops Q fuel (listed.setIfInBounds i true)) a (w.drewN n)
   else ∃v,YieldsIn P ops (Dr w) o v a/\Qba P ops z Q fuel (listed.setIfInBounds i true) (a.put o.dst v) w
theorem N3: ∀(fuel:Nat) (listed:Array Bool) (a:Act) (w:World) (n:Nat),Qba P ops z Q fuel listed a w->wpAny P .any ops Q fuel listed a (w.drewN n)
 |0,_,_,_,_,h=>h.elim
 |fuel+1,listed,a,w,n,h=>by
  refine ⟨λh0=>absurd h0 h.1,λi hi=>?_⟩;obtain ⟨_,o,ho,_⟩:=mem_ready.1 hi;have h2:=h.2 i hi o ho;split at h2
  ·exact h2 n
  ·obtain ⟨v,hy,hk⟩:=h2;exact wpOp_of_qOp (C:=Dr w) (K:=λa=>Qba P ops z Q fuel (listed.setIfInBounds i true) a w) ⟨n,rfl⟩ (λa' w' ⟨m,hw'⟩ hh=>by subst hw';exact N3 fuel _ a' w m hh) (hy.qOp ho hk)
theorem Qbb {w:World} {i:Nat} {oi:Oper} {v:Value} {dep:Array Bool} (hz:dep.getD z false=true) (hi:ops[i]?=some oi) (hiz:i≠z) (hsel: ∀(j:Nat) (o:Oper) cs b,ops[j]?=some o->o.op≠ .select cs b):
  ∀(fuel:Nat) (listed:Array Bool) (a:Act),
   (∀j oj,ops[j]?=some oj->j≠i->listed.getD j true=false->(∀e∈oj.after,Region.binds .any e=true->e.on≠i)->oi.apart ops oj=true)->
   (∀j,dep.getD j false=true->j≠i/\listed.getD j true=false/\ ∃o,ops[j]?=some o/\ ∃e∈o.after,Region.binds .any e=true/\(e.on=i\/dep.getD e.on false=true))->
   i∈Region.ready .any ops listed->YieldsIn P ops (Dr w) oi v a->
   Qba P ops z Q fuel (listed.setIfInBounds i true) (a.put oi.dst v) w->Qba P ops z Q (fuel+1) listed a w:=by
 intro fuel;induction fuel with
 |zero=>exact λ_ _ _ _ _ _ H=>H.elim
 |succ fuel ih=>
  intro listed a hfree Nh hr hy H;refine ⟨λh=>(by rw [h] at hr;cases hr),λj hj o ho=>?_⟩;by_cases hji:j=i
  ·subst hji;rw [hi] at ho;injection ho with ho;subst ho;rw [if_neg hiz];exact ⟨v,hy,H⟩
  ·have h1:=H.2 j (ready_mono hj hji) o ho;obtain ⟨hjun,oj,hoj,hall⟩:=mem_ready.1 hj;rw [ho] at hoj;injection hoj with hoj;subst hoj
   have Qjp: ∀k,listed.getD k true=false->listed.getD k false=true->False:=λk h0 h1=>by
    rcases Nat.lt_or_ge k listed.size with h'|h'
    ·simp [h'] at h0 h1;rw [h0] at h1;cases h1
    ·simp [Array.getElem?_eq_none h'] at h1
   have hnot: ∀e∈o.after,Region.binds .any e=true->e.on≠i:=λe he hb heq=>Qjp i (mem_ready.1 hr).1 (heq▸hall e he hb)
   have hnd:dep.getD j false=false:=by
    cases hd:dep.getD j false with
    |false=>rfl
    |true=>
     obtain ⟨_,_,o',ho',e,he,hb,h⟩:=Nh j hd;rw [ho] at ho';injection ho' with ho';subst ho';rcases h with h|h
     ·exact absurd h (hnot e he hb)
     ·exact (Qjp e.on (Nh e.on h).2.1 (hall e he hb)).elim
   have hjz:j≠z:=λe=>by
    subst e;rw [hz] at hnd;cases hnd
   have Qa5: ∀k,dep.getD k false=true->k≠i/\(listed.setIfInBounds j true).getD k true=false/\ ∃o,ops[k]?=some o/\ ∃e∈o.after,Region.binds .any e=true/\(e.on=i\/dep.getD e.on false=true):=λk hk=>by
    obtain ⟨k1,k2,k3⟩:=Nh k hk;refine ⟨k1,?_,k3⟩;rw [getD_set_ne true (λe=>by subst e;rw [hnd] at hk;cases hk)];exact k2
   have hap:=hfree j o ho hji hjun hnot
   have hfree': ∀k ok,ops[k]?=some ok->k≠i->(listed.setIfInBounds j true).getD k true=false->
     (∀e∈ok.after,Region.binds .any e=true->e.on≠i)->oi.apart ops ok=true:=λk ok hk hki hun hno=>by
    refine hfree k ok hk hki ?_ hno;by_cases hjk:j=k
    ·subst hjk;exact hjun
    ·rw [getD_set_ne true hjk] at hun;exact hun
   have hcm:(listed.setIfInBounds i true).setIfInBounds j true=(listed.setIfInBounds j true).setIfInBounds i true:=Array.setIfInBounds_comm _ _ (λe=>hji e.symm);rw [if_neg hjz] at h1⊢;obtain ⟨u,hu,hK⟩:=h1;obtain ⟨a1,a2,a3⟩:=Oper.apart_spec hap;refine ⟨u,hu.of_same (execOp_put o (λcs b=>hsel j o cs b ho) a oi.dst v a1).symm (wanted_put o a oi.dst v a1).symm,?_⟩
   refine ih (listed.setIfInBounds j true) _ hfree' Qa5 (ready_mono hr (Ne.symm hji))
    (hy.of_same (execOp_put oi (λcs b=>hsel i oi cs b hi) a o.dst u a3) (wanted_put oi a o.dst u a3)) ?_
   rw [<-hcm,<-Act.put_comm a v u a2];exact hK
def upto (Q:Exit->Act->World->Prop) (K:Act->World->Prop):Exit->Act->World->Prop
 | .normal,a,w=>K a w
 |e,a,w=>Q e a w
def Az (P:Program) (ops:Array Oper) (Q:Exit->Act->World->Prop):List Nat->Act->World->Prop
 |[],a,w=>Q .normal a w
 |i::r,a,w=> ∃o,ops[i]?=some o/\wpList P ops (upto Q (Az P ops Q r)) [o] a w
theorem Nw {i:Nat} {o:Oper} {r:List Nat} {a:Act} {w:World} (ho:ops[i]?=some o) (h:wpList P ops (upto Q (Az P ops Q r)) [o] a w):Az P ops Q (i::r) a w:=⟨o,ho,h⟩
theorem Qil {K:Act->World->Prop} (h:LetsOut (upto Q K)):LetsOut Q:=h
theorem Qn0 {o:Oper} {a:Act} {w:World} {K:Act->World->Prop} (h:o.wp P a w K (upto Q K)):o.wp P a w K Q:=by
 unfold Oper.wp at*;generalize (execOp a.eval o).run P w=r at*
 cases r with
 |ok n w'=>
  cases n<;>simp only [Oper.upon] at h⊢
  case value=>exact h
  case skip=>exact h
  case defer=>exact h
  case row=>exact h
  case enter f args=>
   refine Calls.mono h λe w'' he=>?_;cases e with
   |returned v=>exact he
   |panicked c=>exact he
   |outgrown=>exact he
 |halt x w'=>cases x<;>simp only [Oper.upon] at h⊢ <;>exact h
theorem Lg {i:Nat} {o:Oper} {a:Act} {w:World} {K:Act->World->Prop} (ho:ops[i]?=some o) (h:wpList P ops (upto Q K) [o] a w):wpOp P ops Q i K a w:=by
 unfold wpOp;simp only [ho];unfold wpList at h;split
 ·rename_i hw
  rw [if_pos hw] at h;refine h.imp (λh=>Qn0 ?_) (λh=>⟨h.1,Qil h.2⟩);exact h
 ·rename_i hw
  rw [if_neg hw] at h;exact h
def Im (ops:Array Oper):List Nat->Array Bool->Bool
 |[],listed=>(Region.ready .any ops listed).isEmpty
 |t::r,listed=>Region.ready .any ops listed==[t]&&Im ops r (listed.setIfInBounds t true)
theorem Lf: ∀(r:List Nat) (listed:Array Bool) (a:Act) (w:World),Im ops r listed=true->Az P ops Q r a w->wpAny P .any ops Q r.length listed a w
 |[],listed,a,w,hB,h=>by
  simp only [Im,List.isEmpty_iff] at hB;exact ⟨hB,h⟩
 |t::r,listed,a,w,hB,h=>by
  simp only [Im,Bool.and_eq_true,beq_iff_eq] at hB;obtain ⟨o,ho,h⟩:=h;refine ⟨λh0=>(by rw [h0] at hB;cases hB.1),λi hi=>?_⟩;rw [hB.1,List.mem_singleton] at hi;subst hi;exact wpOp_mono (λa w hh=>Lf r _ a w hB.2 hh) (Lg ho h)
def A3 (ops:Array Oper) (ks:List Nat) (z:Nat) (tail:List Nat):List Nat->Array Bool->Bool
 |[],listed=>Im ops (z::tail) listed
 |i::rest,listed=>
  (Region.ready .any ops listed).contains i&&Region.free .any ops listed i&&i !=z&&decide (ks.getD i 2<2)&&
  (Region.ready .any ops listed==[i]||Mg ops listed (Xr ops i) i z)&&
  A3 ops ks z tail rest (listed.setIfInBounds i true)
def Qnr (ops:Array Oper) (ks:List Nat) (z:Nat) (tail pre:List Nat):Bool:=Region.noSelect ops&&pre.length+1+tail.length==ops.size&&A3 ops ks z tail pre (Array.replicate ops.size false)
abbrev Qkn (P:Program) (ops:Array Oper) (Q:Exit->Act->World->Prop) (z:Nat) (tail:List Nat):Exit->Act->World->Prop:=Qho λa w=>Az P ops Q (z::tail) a w
theorem Iv (hSd: ∀w n,S w->S (w.drewN n)) (hs:Region.noSelect ops=true) (tail:List Nat): ∀(pre:List Nat) (listed:Array Bool) (a:Act) (w:World),S w->
  A3 ops ks z tail pre listed=true->J1 P ops ks S (Qkn P ops Q z tail) pre a w->Qba P ops z Q (pre.length+1+tail.length) listed a w
 |[],listed,a,w,_,hB,h=>by
  simp only [A3,Im,Bool.and_eq_true,beq_iff_eq] at hB;have e:([]:List Nat).length+1+tail.length=tail.length+1:=by simp;omega
  rw [e];refine ⟨λh0=>(by rw [h0] at hB;cases hB.1),λj hj oj hoj=>?_⟩;rw [hB.1,List.mem_singleton] at hj;subst hj;rw [if_pos rfl];intro n;obtain ⟨o,ho,h⟩:=h n;exact wpOp_mono (λa w hh=>Lf tail _ a w hB.2 hh) (Lg ho h)
 |i::rest,listed,a,w,hS,hB,h=>by
  obtain ⟨o,ho,h⟩:=h;simp only [A3,Bool.and_eq_true,bne_iff_ne,decide_eq_true_iff] at hB;obtain ⟨⟨⟨⟨⟨hr,hf⟩,hiz⟩,hk2⟩,hk⟩,hB'⟩:=hB;have G5:i∈Region.ready .any ops listed:=by simpa using hr
  have hy: ∃v,YieldsIn P ops (Dr w) o v a/\J1 P ops ks S (Qkn P ops Q z tail) rest (a.put o.dst v) w:=by
   have hko:ks.getD i 2=0\/ks.getD i 2=1:=by omega
   rcases hko with hko|hko
   ·rw [hko] at h;obtain ⟨v,hy,hK⟩:=h;exact ⟨v,Z4 (λn=>hSd w n hS) hy,hK⟩
   ·rw [hko] at h;exact h
  obtain ⟨v,hy,hK⟩:=hy;have e:(i::rest).length+1+tail.length=(rest.length+1+tail.length)+1:=by simp;omega
  rw [e];have IH:=Iv hSd hs tail rest _ _ _ hS hB' hK;simp only [Bool.or_eq_true,beq_iff_eq] at hk;rcases hk with hk|hk
  ·refine ⟨λh0=>(by rw [h0] at hk;cases hk),λj hj oj hoj=>?_⟩;rw [hk,List.mem_singleton] at hj;subst hj;rw [ho] at hoj;injection hoj with hoj;subst hoj;rw [if_neg hiz];exact ⟨v,hy,IH⟩
  ·exact Qbb (Ua hk).1 ho hiz (Region.noSelect_spec hs) _ listed a (Region.free_spec ho hf) (Ua hk).2 G5 hy IH
theorem N4 {id:Nat} {a:Act} {w:World} {l:List Oper} (S:World->Prop) (ks pre:List Nat) (z:Nat) (tail:List Nat) (hm:P.follows .mixedOrders=true) (hB:Qnr l.toArray ks z tail pre=true)
  (hSd: ∀w n,S w->S (w.drewN n)) (hS:S w) (h:J1 P l.toArray ks S (Qkn P l.toArray Q z tail) pre a w):(Code.region id l.toArray true).wp P Q a w:=by
 simp only [Qnr,Bool.and_eq_true,beq_iff_eq] at hB;refine wp_region_any hm ?_;have:=N3 _ (Array.replicate l.toArray.size false) a w 1 (Iv hSd hB.1.1 tail pre _ a _ hS hB.2 h);rw [hB.1.2] at this;exact this
theorem Q1s {a:Act} {w:World} (h:Q .normal a w):upto Q (Az P ops Q []) .normal a w:=h
theorem Q9u {tail:List Nat} {a:Act} {w:World} (h: ∀n,Az P ops Q (z::tail) a (w.drewN n)):J1 P ops ks S (Qkn P ops Q z tail) [] a w:=h
end
end Go.Mer
