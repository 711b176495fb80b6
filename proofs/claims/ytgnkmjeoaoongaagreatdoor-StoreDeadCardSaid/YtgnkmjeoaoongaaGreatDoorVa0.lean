/-
  Region, Maps, Tok, Last.
-/
import Derived.Deep.Quiet
import Derived.OrdersHeld
import Derived.WalkKit
import Derived.Maps.RangeRun
import Derived.Maps.OwnOps
theorem Go.zz{p:Prop}(h:p):Go.RowKit.Hid p:=h
namespace Go.Mer
open Go
def V3 (ops:Array Oper) (i:Nat):Array Bool:=
 (List.range ops.size).foldl (λacc j=>acc.push (match ops[j]? with
  |some o=>o.after.any λe=>Region.binds .any e&&(e.on==i||acc.getD e.on false)
  |none=>false)) #[]
def Q4k (ops:Array Oper) (ks:List Nat) (listed dep:Array Bool) (i:Nat):Bool:=
 (List.range ops.size).all λj=>
  (!dep.getD j false||(j !=i&&!listed.getD j true&&match ops[j]? with
   |some o=>o.after.any λe=>Region.binds .any e&&(e.on==i||dep.getD e.on false)
   |none=>false))&&
  (dep.getD j false||j==i||listed.getD j true||ks.getD j 2 !=2)
def Nx (ops:Array Oper) (ks:List Nat):List Nat->Array Bool->Bool
 |[],listed=>(Region.ready .any ops listed).isEmpty
 |i::rest,listed=>
  (Region.ready .any ops listed).contains i&&Region.free .any ops listed i&&
  (match ks.getD i 2 with
   |0=>true
   |1=>Q4k ops ks listed (V3 ops i) i
   |2=>Region.ready .any ops listed==[i]
   |_=>false)&&
  Nx ops ks rest (listed.setIfInBounds i true)
def Qmc (ops:Array Oper) (ks ord:List Nat):Bool:=Region.noSelect ops&&ord.length==ops.size&&Nx ops ks ord (Array.replicate ops.size false)
def Dr (w:World):World->Prop:=λw'=> ∃n,w'=w.drewN n
section
variable {P:Program} {ops:Array Oper} {Q:Exit->Act->World->Prop} {S:World->Prop} {ks:List Nat}
def Bw (P:Program) (ops:Array Oper) (ks:List Nat) (S:World->Prop) (Q:Exit->Act->World->Prop):Nat->Array Bool->Act->World->Prop
 |0,listed,a,w=>Region.ready .any ops listed=[]/\ ∀n,Q .normal a (w.drewN n)
 |fuel+1,listed,a,w=>
  (Region.ready .any ops listed=[]-> ∀n,Q .normal a (w.drewN n))/\
  ∀i∈Region.ready .any ops listed,∀o,ops[i]?=some o->
   if ks.getD i 2=2 then ∀n,wpOp P ops Q i (λa' w'=>S w'/\Bw P ops ks S Q fuel (listed.setIfInBounds i true) a' w') a (w.drewN n)
   else ∃v,YieldsIn P ops (Dr w) o v a/\Bw P ops ks S Q fuel (listed.setIfInBounds i true) (a.put o.dst v) w
theorem Fb: ∀(fuel:Nat) (listed:Array Bool) (a:Act) (w:World) (n:Nat),Bw P ops ks S Q fuel listed a w->wpAny P .any ops Q fuel listed a (w.drewN n)
 |0,_,_,_,n,h=>⟨h.1,h.2 n⟩
 |fuel+1,listed,a,w,n,h=>by
  refine ⟨λh0=>h.1 h0 n,λi hi=>?_⟩;obtain ⟨_,o,ho,_⟩:=mem_ready.1 hi;have h2:=h.2 i hi o ho;split at h2
  ·exact wpOp_mono (λa w hh=>Fb fuel _ a w 0 hh.2) (h2 n)
  ·obtain ⟨v,hy,hk⟩:=h2;exact wpOp_of_qOp (C:=Dr w) (K:=λa=>Bw P ops ks S Q fuel (listed.setIfInBounds i true) a w) ⟨n,rfl⟩ (λa' w' ⟨m,hw'⟩ hh=>by subst hw';exact Fb fuel _ a' w m hh) (hy.qOp ho hk)
theorem Zf {w:World} {o:Oper} {v:Value} {a:Act} (hS: ∀n,S (w.drewN n)) (h:YieldsIf P ops S o v a):YieldsIn P ops (Dr w) o v a:=
 h.imp (λ⟨x,y⟩=>⟨x,λw' ⟨n,hn⟩=>by subst hn;unfold Oper.quietAt;rw [y _ (hS n)];exact ⟨rfl,rfl⟩⟩) id
theorem Q31 {i:Nat} {oi:Oper} {v:Value} (hSd: ∀w n,S w->S (w.drewN n)) (hi:ops[i]?=some oi) (hki:ks.getD i 2≠2) (hsel: ∀(j:Nat) (o:Oper) cs b,ops[j]?=some o->o.op≠ .select cs b)
  (hQ: ∀c a w,Q (.panic c) (a.put oi.dst v) w->Q (.panic c) a w):
  ∀(fuel:Nat) (listed:Array Bool) (a:Act) (w:World),S w->
   (∀j oj,ops[j]?=some oj->j≠i->listed.getD j true=false->(∀e∈oj.after,Region.binds .any e=true->e.on≠i)->oi.apart ops oj=true)->
   i∈Region.ready .any ops listed->YieldsIf P ops S oi v a->
   Bw P ops ks S Q fuel (listed.setIfInBounds i true) (a.put oi.dst v) w->Bw P ops ks S Q (fuel+1) listed a w:=by
 intro fuel;induction fuel with
 |zero=>
  intro listed a w hS _ hr hy H;refine ⟨λh=>(by rw [h] at hr;cases hr),λj hj o ho=>?_⟩;by_cases hji:j=i
  ·subst hji;rw [hi] at ho;injection ho with ho;subst ho;rw [if_neg hki];exact ⟨v,Zf (λn=>hSd w n hS) hy,H⟩
  ·have:=ready_mono hj hji;rw [H.1] at this;cases this
 |succ fuel ih=>
  intro listed a w hS hfree hr hy H;refine ⟨λh=>(by rw [h] at hr;cases hr),λj hj o ho=>?_⟩;by_cases hji:j=i
  ·subst hji;rw [hi] at ho;injection ho with ho;subst ho;rw [if_neg hki];exact ⟨v,Zf (λn=>hSd w n hS) hy,H⟩
  ·have h1:=H.2 j (ready_mono hj hji) o ho;obtain ⟨hjun,oj,hoj,hall⟩:=mem_ready.1 hj;rw [ho] at hoj;injection hoj with hoj;subst hoj
   have hnot: ∀e∈o.after,Region.binds .any e=true->e.on≠i:=λe he hb heq=>by
    have h1:=hall e he hb;have h0:=(mem_ready.1 hr).1;rw [heq] at h1;rcases Nat.lt_or_ge i listed.size with h'|h'
    ·simp [h'] at h0 h1;rw [h0] at h1;cases h1
    ·simp [Array.getElem?_eq_none h'] at h1
   have hap:=hfree j o ho hji hjun hnot
   have hfree': ∀k ok,ops[k]?=some ok->k≠i->(listed.setIfInBounds j true).getD k true=false->
     (∀e∈ok.after,Region.binds .any e=true->e.on≠i)->oi.apart ops ok=true:=λk ok hk hki hun hno=>by
    refine hfree k ok hk hki ?_ hno;by_cases hjk:j=k
    ·subst hjk;exact hjun
    ·rw [getD_set_ne true hjk] at hun;exact hun
   have hcm:(listed.setIfInBounds i true).setIfInBounds j true=(listed.setIfInBounds j true).setIfInBounds i true:=Array.setIfInBounds_comm _ _ (λe=>hji e.symm);by_cases hk2:ks.getD j 2=2
   ·rw [if_pos hk2] at h1⊢;intro n;have h2:=wpOp_putIf ho hap (λcs b=>hsel i oi cs b hi) (λcs b=>hsel j o cs b ho) hQ hy (h1 n);refine wpOp_mono (λa' w' h3=>⟨h3.2.1,ih (listed.setIfInBounds j true) a' w' h3.2.1 hfree' (ready_mono hr (Ne.symm hji)) h3.1 ?_⟩) h2;rw [<-hcm];exact h3.2.2
   ·rw [if_neg hk2] at h1⊢;obtain ⟨u,hu,hK⟩:=h1;obtain ⟨a1,a2,a3⟩:=Oper.apart_spec hap;refine ⟨u,hu.of_same (execOp_put o (λcs b=>hsel j o cs b ho) a oi.dst v a1).symm (wanted_put o a oi.dst v a1).symm,?_⟩
    refine ih (listed.setIfInBounds j true) _ w hS hfree' (ready_mono hr (Ne.symm hji))
     (hy.of_same (execOp_put oi (λcs b=>hsel i oi cs b hi) a o.dst u a3) (wanted_put oi a o.dst u a3)) ?_
    rw [<-hcm,<-Act.put_comm a v u a2];exact hK
theorem Qao {w:World} {i:Nat} {oi:Oper} {v:Value} {dep:Array Bool} (hi:ops[i]?=some oi) (hki:ks.getD i 2≠2) (hsel: ∀(j:Nat) (o:Oper) cs b,ops[j]?=some o->o.op≠ .select cs b):
  ∀(fuel:Nat) (listed:Array Bool) (a:Act),
   (∀j oj,ops[j]?=some oj->j≠i->listed.getD j true=false->(∀e∈oj.after,Region.binds .any e=true->e.on≠i)->oi.apart ops oj=true)->
   (∀j,dep.getD j false=true->j≠i/\listed.getD j true=false/\ ∃o,ops[j]?=some o/\ ∃e∈o.after,Region.binds .any e=true/\(e.on=i\/dep.getD e.on false=true))->
   (∀j oj,ops[j]?=some oj->dep.getD j false=false->j≠i->listed.getD j true=false->ks.getD j 2≠2)->
   i∈Region.ready .any ops listed->YieldsIn P ops (Dr w) oi v a->
   Bw P ops ks S Q fuel (listed.setIfInBounds i true) (a.put oi.dst v) w->Bw P ops ks S Q (fuel+1) listed a w:=by
 intro fuel;induction fuel with
 |zero=>
  intro listed a _ _ _ hr hy H;refine ⟨λh=>(by rw [h] at hr;cases hr),λj hj o ho=>?_⟩;by_cases hji:j=i
  ·subst hji;rw [hi] at ho;injection ho with ho;subst ho;rw [if_neg hki];exact ⟨v,hy,H⟩
  ·have:=ready_mono hj hji;rw [H.1] at this;cases this
 |succ fuel ih=>
  intro listed a hfree L3 hkind hr hy H;refine ⟨λh=>(by rw [h] at hr;cases hr),λj hj o ho=>?_⟩;by_cases hji:j=i
  ·subst hji;rw [hi] at ho;injection ho with ho;subst ho;rw [if_neg hki];exact ⟨v,hy,H⟩
  ·have h1:=H.2 j (ready_mono hj hji) o ho;obtain ⟨hjun,oj,hoj,hall⟩:=mem_ready.1 hj;rw [ho] at hoj;injection hoj with hoj;subst hoj
   have Qog: ∀k,listed.getD k true=false->listed.getD k false=true->False:=λk h0 h1=>by
    rcases Nat.lt_or_ge k listed.size with h'|h'
    ·simp [h'] at h0 h1;rw [h0] at h1;cases h1
    ·simp [Array.getElem?_eq_none h'] at h1
   have hnot: ∀e∈o.after,Region.binds .any e=true->e.on≠i:=λe he hb heq=>
    Qog i (mem_ready.1 hr).1 (heq▸hall e he hb)
   have hnd:dep.getD j false=false:=by
    cases hd:dep.getD j false with
    |false=>rfl
    |true=>
     obtain ⟨_,_,o',ho',e,he,hb,h⟩:=L3 j hd;rw [ho] at ho';injection ho' with ho';subst ho';rcases h with h|h
     ·exact absurd h (hnot e he hb)
     ·exact (Qog e.on (L3 e.on h).2.1 (hall e he hb)).elim
   have hap:=hfree j o ho hji hjun hnot
   have hset: ∀k,(listed.setIfInBounds j true).getD k true=false->listed.getD k true=false:=λk hun=>by
    by_cases hjk:j=k
    ·subst hjk;exact hjun
    ·rw [getD_set_ne true hjk] at hun;exact hun
   have hfree': ∀k ok,ops[k]?=some ok->k≠i->(listed.setIfInBounds j true).getD k true=false->
     (∀e∈ok.after,Region.binds .any e=true->e.on≠i)->oi.apart ops ok=true:=λk ok hk hki hun hno=>hfree k ok hk hki (hset k hun) hno
   have hcm:(listed.setIfInBounds i true).setIfInBounds j true=(listed.setIfInBounds j true).setIfInBounds i true:=Array.setIfInBounds_comm _ _ (λe=>hji e.symm);have hk2:=hkind j o ho hnd hji hjun;rw [if_neg hk2] at h1⊢;obtain ⟨u,hu,hK⟩:=h1;obtain ⟨a1,a2,a3⟩:=Oper.apart_spec hap;refine ⟨u,hu.of_same (execOp_put o (λcs b=>hsel j o cs b ho) a oi.dst v a1).symm (wanted_put o a oi.dst v a1).symm,?_⟩
   refine ih (listed.setIfInBounds j true) _ hfree' (λk hk=>?_) (λk ok hk h1 h2 h3=>hkind k ok hk h1 h2 (hset k h3)) (ready_mono hr (Ne.symm hji))
    (hy.of_same (execOp_put oi (λcs b=>hsel i oi cs b hi) a o.dst u a3) (wanted_put oi a o.dst u a3)) ?_
   ·obtain ⟨k1,k2,k3⟩:=L3 k hk;refine ⟨k1,?_,k3⟩;rw [getD_set_ne true (λe=>by subst e;rw [hnd] at hk;cases hk)];exact k2
   ·rw [<-hcm,<-Act.put_comm a v u a2];exact hK
def only (Q:Exit->Act->World->Prop):Exit->Act->World->Prop
 | .normal,a,w=>Q .normal a w
 |_,_,_=>False
def Ji (P:Program) (ops:Array Oper) (ks:List Nat) (S:World->Prop) (Q:Exit->Act->World->Prop):List Nat->Act->World->Prop
 |[],a,w=> ∀n,Q .normal a (w.drewN n)
 |i::rest,a,w=> ∃o,ops[i]?=some o/\
  match ks.getD i 2 with
  |0=> ∃v,YieldsIf P ops S o v a/\Ji P ops ks S Q rest (a.put o.dst v) w
  |1=> ∃v,YieldsIn P ops (Dr w) o v a/\Ji P ops ks S Q rest (a.put o.dst v) w
  |_=> ∀n,wpOp P ops (only Q) i (λa' w'=>S w'/\Ji P ops ks S Q rest a' w') a (w.drewN n)
theorem Ff (hSd: ∀w n,S w->S (w.drewN n)) (hs:Region.noSelect ops=true): ∀(ord:List Nat) (listed:Array Bool) (a:Act) (w:World),S w->
  Nx ops ks ord listed=true->Ji P ops ks S Q ord a w->Bw P ops ks S (only Q) ord.length listed a w
 |[],listed,a,w,_,hB,h=>⟨by simpa [Nx] using hB,h⟩
 |i::rest,listed,a,w,hS,hB,h=>by
  obtain ⟨o,ho,h⟩:=h;simp only [Nx,Bool.and_eq_true] at hB;obtain ⟨⟨⟨hr,hf⟩,hk⟩,hB'⟩:=hB;have Gs:i∈Region.ready .any ops listed:=by simpa using hr
  have hko:ks.getD i 2=0\/ks.getD i 2=1\/ks.getD i 2=2:=by
   split at hk
   ·rename_i h;exact .inl h
   ·rename_i h;exact .inr (.inl h)
   ·rename_i h;exact .inr (.inr h)
   ·cases hk
  rcases hko with hko|hko|hko
  ·rw [hko] at h;obtain ⟨v,hy,hK⟩:=h;exact Q31 hSd ho (by omega) (Region.noSelect_spec hs) (λ_ _ _ h=>h.elim) rest.length listed a w hS (Region.free_spec ho hf) Gs hy (Ff hSd hs rest _ _ _ hS hB' hK)
  ·rw [hko] at h hk;obtain ⟨v,hy,hK⟩:=h;simp only [Q4k,List.all_eq_true,List.mem_range,Bool.and_eq_true] at hk;have hlt: ∀j oj,ops[j]?=some oj->j<ops.size:=λj oj h=>(Array.getElem?_eq_some_iff.1 h).1;refine Qao (dep:=V3 ops i) ho (by omega) (Region.noSelect_spec hs) rest.length listed a (Region.free_spec ho hf) (λj hj=>?_) (λj oj hoj hd hne hun=>?_) Gs hy (Ff hSd hs rest _ _ _ hS hB' hK)
   ·have hjs:j<ops.size:=by
     rcases Nat.lt_or_ge j (V3 ops i).size with h'|h'
     ·have:(V3 ops i).size=ops.size:=by
       unfold V3
       have key: ∀(l:List Nat) (acc:Array Bool) (f:Array Bool->Nat->Bool),(l.foldl (λacc j=>acc.push (f acc j)) acc).size=acc.size+l.length:=by
        intro l;induction l with
        |nil=>intro acc f;simp
        |cons x l ih=>intro acc f;simp only [List.foldl_cons,ih,Array.size_push,List.length_cons];omega
       rw [key (List.range ops.size) #[] (λacc j=>match ops[j]? with
        |some o=>o.after.any λe=>Region.binds .any e&&(e.on==i||acc.getD e.on false)
        |none=>false)]
       simp
      omega
     ·simp [Array.getElem?_eq_none h'] at hj
    have h1:=(hk j hjs).1;rw [hj] at h1;simp only [Bool.not_true,Bool.false_or,Bool.and_eq_true,bne_iff_ne,Bool.not_eq_true'] at h1;obtain ⟨⟨h1,h2⟩,h3⟩:=h1;refine ⟨h1,h2,?_⟩;split at h3
    ·rename_i oj hoj
     obtain ⟨e,he,hb⟩:=Array.any_eq_true'.1 h3;simp only [Bool.and_eq_true,Bool.or_eq_true,beq_iff_eq] at hb;exact ⟨oj,hoj,e,he,hb.1,hb.2⟩
    ·cases h3
   ·have h1:=(hk j (hlt j oj hoj)).2;rw [hd] at h1;simp only [Bool.false_or,Bool.or_eq_true,beq_iff_eq,bne_iff_ne] at h1;rcases h1 with (h1|h1)|h1
    ·exact absurd h1 hne
    ·rw [hun] at h1;cases h1
    ·exact h1
  ·rw [hko] at h hk;have hk':Region.ready .any ops listed=[i]:=by simpa using hk
   refine ⟨λh0=>(by rw [h0] at hk';cases hk'),λj hj oj hoj=>?_⟩;rw [hk'] at hj;simp only [List.mem_singleton] at hj;subst hj;rw [ho] at hoj;injection hoj with hoj;subst hoj;rw [if_pos hko];exact λn=>wpOp_mono (λa w hh=>⟨hh.1,Ff hSd hs rest _ a w hh.1 hB' hh.2⟩) (h n)
theorem Qrj {o:Oper} {a:Act} {w:World} {K:Act->World->Prop} (h:o.wp P a w K (only Q)):o.wp P a w K Q:=by
 unfold Oper.wp at*;generalize (execOp a.eval o).run P w=r at*
 cases r with
 |ok n w'=>
  cases n<;>simp only [Oper.upon] at h⊢
  case value=>exact h
  case skip=>exact h
  case defer=>exact h
  case row=>exact h
  case enter f args=>
   refine Calls.mono h λe w'' he=>?_;cases e with
   |returned v=>exact he
   |panicked c=>exact he.elim
   |outgrown=>obtain ⟨_,_,h⟩:=he;exact h.elim
 |halt x w'=>cases x<;>simp only [Oper.upon] at h⊢;exact h.elim
theorem On: ∀(fuel:Nat) (listed:Array Bool) (a:Act) (w:World),wpAny P .any ops (only Q) fuel listed a w->wpAny P .any ops Q fuel listed a w
 |0,_,_,_,h=>h
 |fuel+1,listed,a,w,h=>by
  refine ⟨h.1,λi hi=>?_⟩;have h2:=wpOp_mono (λa w=>On fuel _ a w) (h.2 i hi);unfold wpOp at*;split
  ·rename_i hn;simp only [hn] at h2;exact h2
  ·rename_i o ho
   simp only [ho] at h2;split
   ·rename_i hw
    simp only [hw,if_true] at h2;exact .inl (h2.elim Qrj λ⟨_,_,_,hh⟩=>hh.elim)
   ·rename_i hw;simp only [hw] at h2;exact h2
theorem Xb {id:Nat} {a:Act} {w:World} {l:List Oper} (S:World->Prop) (ks ord:List Nat) (hm:P.follows .mixedOrders=true) (hB:Qmc l.toArray ks ord=true)
  (hSd: ∀w n,S w->S (w.drewN n)) (hS:S w) (h:Ji P l.toArray ks S Q ord a w):(Code.region id l.toArray true).wp P Q a w:=by
 simp only [Qmc,Bool.and_eq_true,beq_iff_eq] at hB;refine wp_region_any hm (On _ _ _ _ ?_);have:=Fb _ (Array.replicate l.toArray.size false) a w 1 (Ff hSd hB.1.1 ord _ a _ hS hB.2 h);rw [hB.1.2] at this;exact this
theorem Q2r {id:Nat} {a:Act} {w:World} {l:List Oper} (ks ord:List Nat) (hm:P.follows .mixedOrders=true) (hB:Qmc l.toArray ks ord=true)
  (h:Ji P l.toArray ks (λ_=>True) Q ord a w):(Code.region id l.toArray true).wp P Q a w:=
 Xb (λ_=>True) ks ord hm hB (λ_ _ _=>trivial) trivial h
theorem Qa {a:Act} {w:World} (h: ∀n,Q .normal a (w.drewN n)):Ji P ops ks S Q [] a w:=h
theorem Qb {i:Nat} {o:Oper} {rest:List Nat} {a:Act} {w:World} (ho:ops[i]?=some o) (hk:ks.getD i 2=0) (hg:Region.wanted o (yielded ops a.tmps)=true)
  {v:Value} (hv: ∀w0:World,S w0->(execOp a.eval o).run P w0= .ok (.value v) w0) {A:Act} (hA:a.put o.dst v=A) (h:Ji P ops ks S Q rest A w):Ji P ops ks S Q (i::rest) a w:=by
 subst hA;refine ⟨o,ho,?_⟩;rw [hk];exact ⟨v, .inl ⟨hg,hv⟩,h⟩
theorem Qcq {i:Nat} {o:Oper} {rest:List Nat} {a:Act} {w:World} (ho:ops[i]?=some o) (hk:ks.getD i 2=1) (hg:Region.wanted o (yielded ops a.tmps)=true)
  {v:Value} (hv: ∀n,(execOp a.eval o).run P (w.drewN n)= .ok (.value v) (w.drewN n)) {A:Act} (hA:a.put o.dst v=A) (h:Ji P ops ks S Q rest A w):Ji P ops ks S Q (i::rest) a w:=by
 subst hA;refine ⟨o,ho,?_⟩;rw [hk];exact ⟨v, .inl ⟨hg,λw' ⟨n,hn⟩=>by subst hn;unfold Oper.quietAt;rw [hv n];exact ⟨rfl,rfl⟩⟩,h⟩
theorem Q22 {i:Nat} {o:Oper} {rest:List Nat} {a:Act} {w:World} (ho:ops[i]?=some o) (hk:ks.getD i 2=1) (hg:Region.wanted o (yielded ops a.tmps)=true)
  {f:FuncId} {args:Array Value} (hv: ∀n,(execOp a.eval o).run P (w.drewN n)= .ok (.enter f args) (w.drewN n))
  {v:Value} (hc: ∀n,Calls P f args (w.drewN n) λe w'=>e= .returned v/\ ∃m,w'=(w.drewN n).drewN m) {A:Act} (hA:a.put o.dst v=A) (h:Ji P ops ks S Q rest A w):Ji P ops ks S Q (i::rest) a w:=by
 subst hA;refine ⟨o,ho,?_⟩;rw [hk];refine ⟨v, .inl ⟨hg,λw' ⟨n,hn⟩=>?_⟩,h⟩;subst hn;unfold Oper.quietAt;rw [hv n];exact ⟨rfl,(hc n).mono λe w'' ⟨he,m,hm⟩=>⟨he,n+m,by rw [hm,World.drewN_drewN]⟩⟩
theorem Qcr {i:Nat} {o:Oper} {rest:List Nat} {a:Act} {w:World} (ho:ops[i]?=some o) (hk:ks.getD i 2<2) (hg:Region.wanted o (yielded ops a.tmps)=false)
  {A:Act} (hA:a.put o.dst undef=A) (h:Ji P ops ks S Q rest A w):Ji P ops ks S Q (i::rest) a w:=by
 subst hA;refine ⟨o,ho,?_⟩;have:ks.getD i 2=0\/ks.getD i 2=1:=by omega
 rcases this with hk|hk<;>rw [hk]
 ·exact ⟨undef, .inr ⟨hg,rfl⟩,h⟩
 ·exact ⟨undef, .inr ⟨hg,rfl⟩,h⟩
theorem Q8 {i:Nat} {o:Oper} {rest:List Nat} {a:Act} {w:World} (ho:ops[i]?=some o) (hk:ks.getD i 2=2)
  (h: ∀n,wpList P ops (λe a' w'=>e= .normal/\S w'/\Ji P ops ks S Q rest a' w') [o] a (w.drewN n)):Ji P ops ks S Q (i::rest) a w:=by
 refine ⟨o,ho,?_⟩;rw [hk];intro n;unfold wpOp;simp only [ho];have h:=h n;unfold wpList at h
 have hn: ¬LetsOut (λe a' w'=>e=Exit.normal/\S w'/\Ji P ops ks S Q rest a' w'):=by
  rintro ⟨_,_,h,_⟩;cases h
 split
 ·rename_i hw
  rw [if_pos hw] at h;refine .inl ?_;rcases h with h|⟨_,h⟩
  ·unfold Oper.wp at*;generalize (execOp a.eval o).run P (w.drewN n)=r at*
   cases r with
   |ok n w'=>
    cases n<;>simp only [Oper.upon,wpList] at h⊢
    case value=>exact h.2
    case skip=>exact h.2
    case defer=>exact h.2
    case row=>exact Rows.mono h λ_ _ h=>h.2
    case enter f args=>
     refine Calls.mono h λe w'' he=>?_;cases e with
     |returned v=>exact he.2
     |panicked c=>exact absurd he.1 (by simp)
     |outgrown=>obtain ⟨_,_,h,_⟩:=he;exact absurd h (by simp)
   |halt x w'=>cases x<;>simp only [Oper.upon] at h⊢;exact absurd h.1 (by simp)
  ·exact (hn h).elim
 ·rename_i hw
  rw [if_neg hw] at h;exact h.2
end
open Go.RowKit Go.MapKept
open Go.ChangeMaps (setBlock)
instance J0c:DecidableEq ByteArray:=λa b=>
 if h:a.data=b.data then isTrue (by cases a;cases b;simp only at h;rw [h]) else isFalse λe=>h (by rw [e])
instance J31:LawfulBEq ByteArray where
 eq_of_beq h:=(MapKept.bytes_beq _ _).1 h
 rfl:=(MapKept.bytes_beq _ _).2 rfl
section
variable {K β:Type} [DecidableEq K]
def Qs (l:List (K×β)) (k:K):Option β:=(l.find? λp=>decide (p.1=k)).map (·.2)
def Jb (l:List (K×β)) (k:K) (v:β):List (K×β):=if k∈l.map (·.1) then l.map (λp=>if p.1=k then (k,v) else p) else l++[(k,v)]
def J6t (l:List (K×β)) (k:K):List (K×β):=l.filter λp=>decide (p.1≠k)
theorem Xu {l:List (K×β)} {k:K} (h:k∉l.map (·.1)):Qs l k=none:=by
 simp only [Qs,Option.map_eq_none_iff,List.find?_eq_none,decide_eq_true_eq];intro p hp e;exact h (List.mem_map.2 ⟨p,hp,e⟩)
theorem Xc {l:List (K×β)} {k:K} {v:β} (hn:(l.map (·.1)).Nodup) (h:(k,v)∈l):Qs l k=some v:=by
 induction l with
 |nil=>cases h
 |cons p l ih=>
  simp only [List.map_cons,List.nodup_cons] at hn;unfold Qs;by_cases hp:p.1=k
  ·simp only [List.find?_cons,hp,decide_true,Option.map_some];rcases List.mem_cons.1 h with h|h
   ·rw [<-h]
   ·exact absurd (List.mem_map.2 ⟨_,h,rfl⟩) (hp▸hn.1)
  ·rcases List.mem_cons.1 h with h|h
   ·exact absurd (by rw [<-h]) hp
   ·simp only [List.find?_cons,hp,decide_false];exact ih hn.2 h
theorem Jc {l:List (K×β)} {k:K} {v:β} (h:Qs l k=some v):(k,v)∈l:=by
 unfold Qs at h;obtain ⟨p,hp,rfl⟩:=Option.map_eq_some_iff.1 h;have h1:=List.find?_some hp;have h2:=List.mem_of_find?_eq_some hp;simp only [decide_eq_true_eq] at h1;rw [<-h1];exact h2
theorem Q72 {l:List (K×β)} {k:K} {v:β} {j:Nat} {u:β} (hn:(l.map (·.1)).Nodup) (h:l[j]?=some (k,u)):Jb l k v=l.set j (k,v):=by
 have hm:k∈l.map (·.1):=List.mem_map.2 ⟨_,List.mem_of_getElem? h,rfl⟩;unfold Jb;rw [if_pos hm];apply List.ext_getElem?
 intro i;rw [List.getElem?_map,List.getElem?_set];by_cases hij:j=i
 ·subst hij;have hj:=(List.getElem?_eq_some_iff.1 h).1;rw [if_pos rfl,if_pos hj,h];simp
 ·rw [if_neg hij];cases hi:l[i]? with
  |none=>rfl
  |some p=>
   have:p.1≠k:=λe=>hij (by
    have h1:(l.map (·.1))[j]?=some k:=by simp [h]
    have h2:(l.map (·.1))[i]?=some k:=by simp [hi,e]
    have hjl:=(List.getElem?_eq_some_iff.1 h1).1;exact (List.getElem?_inj hjl hn).1 (h1.trans h2.symm))
   simp [this]
omit [DecidableEq K] in
theorem Kh {γ:Type} (f:β->γ) (l:List (K×β)):(l.map λp=>(p.1,f p.2)).map (·.1)=l.map (·.1):=by simp [List.map_map,Function.comp_def]
theorem Kc {γ:Type} (f:β->γ) (l:List (K×β)) (k:K):Qs (l.map λp=>(p.1,f p.2)) k=(Qs l k).map f:=by
 induction l with
 |nil=>rfl
 |cons p l ih=>
  unfold Qs at ih⊢;by_cases hp:p.1=k
  ·simp [hp]
  ·simpa [List.find?_cons,hp] using ih
theorem Nn {γ:Type} (f:β->γ) (l:List (K×β)) (k:K) (v:β):(Jb l k v).map (λp=>(p.1,f p.2))=Jb (l.map λp=>(p.1,f p.2)) k (f v):=by
 unfold Jb;rw [Kh];split
 ·simp only [List.map_map];apply List.map_congr_left
  intro p _;simp only [Function.comp_def];split<;>rfl
 ·simp
theorem Z5 {l:List (K×β)} {k:K}:Qs l k=none↔k∉l.map (·.1):=by
 constructor
 ·intro h hm;obtain ⟨p,hp,he⟩:=List.mem_map.1 hm;simp only [Qs,Option.map_eq_none_iff,List.find?_eq_none,decide_eq_true_eq] at h;exact h p hp he
 ·exact Xu
theorem Uq {l:List (K×β)} {k:K} {v:β} (h:Qs l k=some v): ∃l1 l2,l=l1++(k,v)::l2/\k∉l1.map (·.1):=by
 induction l with
 |nil=>simp [Qs] at h
 |cons p l ih=>
  by_cases hp:p.1=k
  ·refine ⟨[],l,?_,by simp⟩;simp only [Qs,List.find?_cons,hp,decide_true,Option.map_some,Option.some.injEq] at h;rw [List.nil_append,<-h,<-hp]
  ·have h':Qs l k=some v:=by simpa [Qs,List.find?_cons,hp] using h
   obtain ⟨l1,l2,rfl,hn⟩:=ih h';refine ⟨p::l1,l2,rfl,?_⟩;simp only [List.map_cons,List.mem_cons,not_or];exact ⟨λe=>hp e.symm,hn⟩
theorem Vi {l1 l2:List (K×β)} {k:K} {u v:β} (hn:((l1++(k,u)::l2).map (·.1)).Nodup):Jb (l1++(k,u)::l2) k v=l1++(k,v)::l2:=by
 rw [Q72 (j:=l1.length) (u:=u) hn (by simp)];simp
theorem Dv {l:List (K×β)} {k:K} {v:β} (h:k∉l.map (·.1)):Jb l k v=l++[(k,v)]:=by unfold Jb;rw [if_neg h]
end
section
variable {K:Type}
def U2 (kv:K->Value) (w:World) (m:Nat) (l:List (K×Value)):Prop:=
 ∃es clock,w.heap[m]?=some (.map es clock)/\Stamped es clock/\es.toList.map (λe=>(e.key,e.val))=l.map (λp=>(kv p.1,p.2))
section
variable {kv:K->Value} {w w':World} {m:Nat} {l:List (K×Value)}
theorem U2.of_heap (h:U2 kv w m l) (hh:w'.heap[m]?=w.heap[m]?):U2 kv w' m l:=by
 obtain ⟨es,clock,h1,h2⟩:=h;exact ⟨es,clock,hh.trans h1,h2⟩
theorem U2.lt (h:U2 kv w m l):m<w.heap.size:=by
 obtain ⟨es,clock,h1,h2⟩:=h;exact (Array.getElem?_eq_some_iff.1 h1).1
theorem U2.nodup (h:U2 kv w m l):(l.map (·.1)).Nodup:=by
 obtain ⟨es,clock,_,⟨_,_,h3⟩,h4⟩:=h
 have:es.toList.map (·.key)=(l.map (·.1)).map kv:=by
  have:=congrArg (List.map (·.1)) h4;simpa [List.map_map,Function.comp_def] using this
 rw [this] at h3;exact (List.pairwise_map.1 h3).imp λhne e=>hne (congrArg _ e)
theorem U2.made (kv:K->Value) (w:World):U2 kv (w.alloc (.map #[] 0)) w.heap.size []:=⟨#[],0,(heap_alloc w _).1,stamped_empty 0,rfl⟩
end
section
variable {P:Program} {kv:K->Value} {w:World} {m:Nat} {l:List (K×Value)} {t kt et:TypeId} {d:TypeDesc}
theorem Qdk (hkv: ∀k,IsKey d (kv k)) (hinj: ∀a b,kv a=kv b->a=b) {es:Array MapEntry} (hp:es.toList.map (λe=>(e.key,e.val))=l.map (λp=>(kv p.1,p.2))) (k:K):
  (Instr.findNow d (kv k) es.toList 0=some none/\k∉l.map (·.1)/\ ∀x∈es.toList,x.key≠kv k)\/ ∃j e,Instr.findNow d (kv k) es.toList 0=some (some (j,e.val))/\es.toList[j]?=some e/\e.key=kv k/\l[j]?=some (k,e.val):=by
 have hkeys: ∀x∈es.toList,IsKey d x.key:=λx hx=>by
  have:(x.key,x.val)∈l.map (λp=>(kv p.1,p.2)):=hp▸List.mem_map.2 ⟨x,hx,rfl⟩;obtain ⟨p,_,he⟩:=List.mem_map.1 this;injection he with he _;rw [<-he];exact hkv _
 rcases findNow_spec (hkv k) es.toList 0 hkeys with ⟨h1,h2⟩|⟨j,e,h1,h2,h3⟩
 ·refine .inl ⟨h1,λhm=>?_,h2⟩;obtain ⟨p,hpl,hpk⟩:=List.mem_map.1 hm;have:(kv p.1,p.2)∈es.toList.map (λe=>(e.key,e.val)):=hp▸List.mem_map.2 ⟨p,hpl,rfl⟩;obtain ⟨x,hx,he⟩:=List.mem_map.1 this;injection he with he _;exact h2 x hx (by rw [he,hpk])
 ·refine .inr ⟨j,e,by simpa using h1,h2,h3,?_⟩;have h5:(es.toList.map (λe=>(e.key,e.val)))[j]?=some (e.key,e.val):=by simp [h2]
  rw [hp,List.getElem?_map] at h5;obtain ⟨p,Qt1,he⟩:=Option.map_eq_some_iff.1 h5;injection he with he1 he2;rw [Qt1];have:p.1=k:=hinj _ _ (he1.trans h3);rw [<-this,<-he2]
end
section
variable [DecidableEq K]
variable {P:Program} {kv:K->Value} {w:World} {m:Nat} {l:List (K×Value)} {t kt et:TypeId} {d:TypeDesc}
theorem Ir (ht:P.underlying t=some (.map kt et)) (hk:P.underlying kt=some d) (hkv: ∀k,IsKey d (kv k)) (hinj: ∀a b,kv a=kv b->a=b)
  {z:Value} (hz: ∀w:World,(zeroValue et).run P w= .ok z w) (h:U2 kv w m l) (k:K):
  (Instr.lookup t (.map (some m)) (kv k) false).run P w= .ok ((Qs l k).getD z) w/\
  (Instr.lookup t (.map (some m)) (kv k) true).run P w= .ok (.tuple #[(Qs l k).getD z, .bool (Qs l k).isSome]) w:=by
 obtain ⟨es,clock,hm,hs,hp⟩:=id h;rcases Qdk hkv hinj hp k with ⟨h1,h2,_⟩|⟨j,e,h1,h2,h3,h4⟩
 ·rw [Xu h2];constructor<;>simp [Instr.lookup,run_underlying ht,MapKept.run_getObj_map hm,run_checkKey hk (hkv k),run_findKey hk h1,hz,Result.andThen]
 ·rw [Xc h.nodup (List.mem_of_getElem? h4)];constructor<;>simp [Instr.lookup,run_underlying ht,MapKept.run_getObj_map hm,run_checkKey hk (hkv k),run_findKey hk h1,Result.andThen]
end
section
variable {P:Program} {kv:K->Value} {w:World} {m:Nat} {l:List (K×Value)} {t kt et:TypeId} {d:TypeDesc}
end
section
variable [DecidableEq K]
variable {P:Program} {kv:K->Value} {w:World} {m:Nat} {l:List (K×Value)} {t kt et:TypeId} {d:TypeDesc}
theorem Is (ht:P.underlying t=some (.map kt et)) (hk:P.underlying kt=some d) (hkv: ∀k,IsKey d (kv k)) (hinj: ∀a b,kv a=kv b->a=b)
  (h:U2 kv w m l) (k:K) (v:Value):
  ∃o,(Instr.mapUpdate t (.map (some m)) (kv k) v).run P w= .ok () (setBlock w m o)/\ ∀w',w'.heap[m]?=some o->U2 kv w' m (Jb l k v):=by
 obtain ⟨es,clock,hm,hs,hp⟩:=id h;rcases Qdk hkv hinj hp k with ⟨h1,h2,h3⟩|⟨j,e,h1,h2,h3,h4⟩
 ·refine ⟨.map (es.push {key:=kv k,val:=v,born:=clock}) (clock+1),?_,λw' hw'=>⟨_,_,hw',stamped_push hs h3,?_⟩⟩
  ·simp [Instr.mapUpdate,run_underlying ht,MapKept.run_getObj_map hm,run_checkKey hk (hkv k),run_findKey hk h1,MapKept.run_setObj_map _ hm,Result.andThen,setBlock]
  ·unfold Jb;rw [if_neg h2];simp [hp]
 ·have hj:es[j]?=some e:=by simpa using h2
  refine ⟨.map (es.modify j λe=>{e with key:=kv k,val:=v}) clock,?_,λw' hw'=>⟨_,_,hw',stamped_modify hs j _ (λ_ _=>rfl) (λe' _ he'=>by rw [hj] at he';cases he';exact h3.symm),?_⟩⟩
  ·simp [Instr.mapUpdate,run_underlying ht,MapKept.run_getObj_map hm,run_checkKey hk (hkv k),run_findKey hk h1,hj,h3,run_keyThatStays (hkv k),MapKept.run_setObj_map _ hm,Result.andThen,setBlock]
  ·rw [Q72 h.nodup h4,List.map_set,<-hp,Array.toList_modify];apply List.ext_getElem?
   intro i;simp only [List.getElem?_map,List.getElem?_modify,List.getElem?_set,List.length_map];have hjl:=(List.getElem?_eq_some_iff.1 h2).1;by_cases hij:j=i
   ·subst hij;have hjs:j<es.size:=by simpa using hjl
    simp [hjs]
   ·simp [hij]
end
section
variable {P:Program} {kv:K->Value} {w:World} {m:Nat} {l:List (K×Value)} {t kt et:TypeId} {d:TypeDesc}
theorem Qgt {ty:TypeId} (ht:P.underlying t=some (.map kt et)) (h:U2 kv w m l):(Builtin.len_ #[t] ty #[.map (some m)]).run P w= .ok (.int .i64 (l.length:Int)) w:=by
 obtain ⟨es,clock,hm,hs,hp⟩:=h
 have:es.size=l.length:=by
  have:=congrArg List.length hp;simpa using this
 simp [Builtin.len_,run_underlying ht,MapKept.run_getObj_map hm,Result.andThen,goInt,this]
def Ek (kv:K->Value) (w:World) (r m:Nat) (l:List (K×Value)) (V:List K):Prop:=
 ∃es clock since seen c0,w.heap[r]?=some (.mapIter (some m) since seen c0)/\w.heap[m]?=some (.map es clock)/\Stamped es clock/\
  es.toList.map (λe=>(e.key,e.val))=l.map (λp=>(kv p.1,p.2))/\(∀x∈es.toList,x.born<since)/\since<=c0/\since<=clock/\
  ∀(i:Nat) (e:MapEntry) (p:K×Value),es.toList[i]?=some e->l[i]?=some p->(seen.contains e.born=true↔p.1∈V)
theorem Ek.map {r:Nat} {V:List K} (h:Ek kv w r m l V):U2 kv w m l:=by
 obtain ⟨es,clock,since,seen,c0,h1,h2,h3,h4,_⟩:=h;exact ⟨es,clock,h2,h3,h4⟩
theorem Ek.of_heap {r:Nat} {V:List K} {w':World} (h:Ek kv w r m l V) (hr:w'.heap[r]?=w.heap[r]?) (hm:w'.heap[m]?=w.heap[m]?):Ek kv w' r m l V:=by
 obtain ⟨es,clock,since,seen,c0,h1,h2,h3⟩:=h;exact ⟨es,clock,since,seen,c0,hr.trans h1,hm.trans h2,h3⟩
theorem Ek.lt {r:Nat} {V:List K} (h:Ek kv w r m l V):r<w.heap.size:=by
 obtain ⟨es,clock,since,seen,c0,h1,_⟩:=h;exact (Array.getElem?_eq_some_iff.1 h1).1
theorem Ek.ne {r:Nat} {V:List K} (h:Ek kv w r m l V):r≠m:=by
 obtain ⟨es,clock,since,seen,c0,h1,h2,_⟩:=h;rintro rfl;rw [h1] at h2;cases h2
theorem Bg (ht:P.underlying t=some (.map kt et)) (h:U2 kv w m l):
  ∃o,(Instr.range t (.map (some m))).run P w= .ok (.pointer (some ⟨w.heap.size,0,none⟩)) (w.alloc o)/\Ek kv (w.alloc o) w.heap.size m l []:=by
 obtain ⟨es,clock,hm,hs,hp⟩:=h;refine ⟨_,run_range_map w t kt et m es clock ht hm,es,clock,clock, #[],clock,(heap_alloc w _).1,((heap_alloc w _).2 m (Array.getElem?_eq_some_iff.1 hm).1).trans hm,hs,hp,hs.1,Nat.le_refl _,Nat.le_refl _,?_⟩;intro i e p _ _;simp
theorem Q1f {r:Nat} {V:List K} (ty:TypeId) (h:Ek kv w r m l V):
  ((∀p∈l,p.1∈V)/\(Instr.next (.pointer (some ⟨r,0,none⟩)) false ty).run P w= .ok (.tuple #[.bool false]) w)\/
  ∃p∈l,p.1∉V/\ ∃(n:Nat) (o:Obj),(Instr.next (.pointer (some ⟨r,0,none⟩)) false ty).run P w= .ok (.tuple #[.bool true,kv p.1,p.2]) (setBlock (w.drewN n) r o)/\
   Ek kv (setBlock (w.drewN n) r o) r m l (p.1::V)/\ ∀w',w'.heap[r]?=some o->w'.heap[m]?=w.heap[m]?->(Instr.entry (.pointer (some ⟨r,0,none⟩))).run P w'= .ok (.tuple #[kv p.1,p.2]) w':=by
 have hnd:=h.map.nodup;have hne:=h.ne;obtain ⟨es,clock,since,seen,c0,hr,hm,hs,hp,hold,hsc,hsk,hV⟩:=h;have hlen:es.toList.length=l.length:=by have:=congrArg List.length hp;simpa using this
 rcases run_next_at (P:=P) w ty r m since c0 seen es clock hr hm hold hsc with ⟨h0,hrun⟩|⟨e,he,w1,hw1,hrun⟩
 ·refine .inl ⟨λp hpl=>?_,hrun⟩;obtain ⟨i,hi⟩:=List.getElem?_of_mem hpl;have hil:=(List.getElem?_eq_some_iff.1 hi).1;have hie:es.toList[i]?=some es.toList[i]:=List.getElem?_eq_getElem (by omega);refine (hV i _ p hie hi).1 ?_;have hL:leftOf es seen= #[]:=Array.eq_empty_of_size_eq_zero h0;unfold leftOf at hL;rw [Array.filter_eq_empty_iff] at hL;have:=hL es.toList[i] (by simp);simpa using this
 ·have hmem:e∈es.toList/\seen.contains e.born=false:=by
   unfold leftOf at he;simp only [Array.toList_filter,List.mem_filter] at he;exact ⟨he.1,by simpa using he.2⟩
  obtain ⟨i,hi⟩:=List.getElem?_of_mem hmem.1;have hil:=(List.getElem?_eq_some_iff.1 hi).1;have hpi:l[i]?=some l[i]:=List.getElem?_eq_getElem (by omega)
  have hpe:(e.key,e.val)=(kv l[i].1,l[i].2):=by
   have h5:(es.toList.map (λe=>(e.key,e.val)))[i]?=some (e.key,e.val):=by simp [hi]
   rw [hp,List.getElem?_map,hpi] at h5;simpa using h5.symm
  injection hpe with J25 J26
  have hnot:l[i].1∉V:=λhm'=>by
   have:=(hV i e _ hi hpi).2 hm';rw [hmem.2] at this;cases this
  obtain ⟨n,hn⟩: ∃n,w1=w.drewN n:=by
   rcases hw1 with rfl|rfl
   ·exact ⟨0,rfl⟩
   ·exact ⟨1,rfl⟩
  subst hn;refine .inr ⟨l[i],List.mem_of_getElem? hpi,hnot,n, .mapIter (some m) since (seen.push e.born) clock,by rw [<-J25,<-J26];exact hrun,?_,λw' hr' hm'=>?_⟩
  ·have hrl:r<(w.drewN n).heap.size:=(Array.getElem?_eq_some_iff.1 hr).1;refine ⟨es,clock,since,seen.push e.born,clock,(by show ((w.drewN n).heap.setIfInBounds r _)[r]?=_;rw [Array.getElem?_setIfInBounds_self,if_pos hrl]),?_,hs,hp,hold,?_,?_,?_⟩
   ·show ((w.drewN n).heap.setIfInBounds r _)[m]?=_
    rw [Array.getElem?_setIfInBounds_ne hne];exact hm
   ·exact hsk
   ·exact hsk
   ·intro j e' p' hj Qt1
    have J2f:(seen.push e.born).contains e'.born=true↔e'.born=e.born\/seen.contains e'.born=true:=by
     simp only [Array.contains_push,Bool.or_eq_true,beq_iff_eq];exact Or.comm
    rw [J2f,hV j e' p' hj Qt1,List.mem_cons]
    have hborn:e'.born=e.born↔p'.1=l[i].1:=by
     constructor
     ·intro hb;have h1:(es.toList.map (·.born))[j]?=some e.born:=by simp [hj,hb]
      have h2:(es.toList.map (·.born))[i]?=some e.born:=by simp [hi]
      have hji:=(List.getElem?_inj (List.getElem?_eq_some_iff.1 h1).1 hs.2.1).1 (h1.trans h2.symm);subst hji;rw [hpi] at Qt1;injection Qt1 with Qt1;rw [Qt1]
     ·intro hb;have h1:(l.map (·.1))[j]?=some l[i].1:=by simp [Qt1,hb]
      have h2:(l.map (·.1))[i]?=some l[i].1:=by simp [hpi]
      have hji:=(List.getElem?_inj (List.getElem?_eq_some_iff.1 h1).1 hnd).1 (h1.trans h2.symm);subst hji;rw [hi] at hj;injection hj with hj;rw [hj]
    rw [hborn]
  ·have:=run_entry_at (P:=P) w' r m since seen es clock e hr' (hm'.trans hm) hmem.1 hs.2.1;rw [<-J25,<-J26];exact this
end
end
theorem wrap_small {k:IntKind} (hk:k.signed=false) {a:Nat} (ha:a<2^k.bits):k.wrap (a:Int)=(a:Int):=by
 have e:(2^k.bits:Int)=((2^k.bits:Nat):Int):=by simp
 unfold IntKind.wrap;rw [hk,e];simp only [Bool.false_and,Bool.false_eq_true,if_false];exact Int.emod_eq_of_lt (by omega) (by omega)
theorem Ka {n a:Nat} (ha:a<2^n):(BitVec.ofInt n (a:Int)).toNat=a:=by
 rw [BitVec.ofInt_natCast,BitVec.toNat_ofNat,Nat.mod_eq_of_lt ha]
theorem K9 {k:IntKind} (hk:k.signed=false) {a b:Nat} (ha:a<2^k.bits) (hb:b<2^k.bits):bits .xor k (a:Int) (b:Int)=((a^^^b:Nat):Int):=by
 have h:a^^^b<2^k.bits:=Nat.xor_lt_two_pow ha hb;simp only [bits,BitVec.toNat_xor,Ka ha,Ka hb];exact wrap_small hk h
theorem Q4d {k:IntKind} (hk:k.signed=false) {a b:Nat} (ha:a<2^k.bits) (hb:b<2^k.bits):bits .or k (a:Int) (b:Int)=((a|||b:Nat):Int):=by
 have h:a|||b<2^k.bits:=Nat.or_lt_two_pow ha hb;simp only [bits,BitVec.toNat_or,Ka ha,Ka hb];exact wrap_small hk h
theorem Lx {k:IntKind} (hk:k.signed=false) {a b:Nat} (ha:a<2^k.bits) (hb:b<2^k.bits):bits .and k (a:Int) (b:Int)=((a&&&b:Nat):Int):=by
 have h:a&&&b<2^k.bits:=Nat.and_lt_two_pow a hb;simp only [bits,BitVec.toNat_and,Ka ha,Ka hb];exact wrap_small hk h
def Uo (c:Nat):Nat:=if c % 2=1 then (c/2)^^^3988292384 else c/2
def O3:Nat->Nat->Nat
 |0,c=>c
 |n+1,c=>O3 n (Uo c)
def Q4h (c:Nat) (b:UInt8):Nat:=O3 8 (c^^^b.toNat)
def Fy (c:Nat) (l:List UInt8):Nat:=l.foldl Q4h c
def crc (l:List UInt8):Nat:=Fy 4294967295 l^^^4294967295
theorem C5 {c:Nat} (h:c<4294967296):Uo c<4294967296:=by
 unfold Uo;split
 ·exact Nat.xor_lt_two_pow (n:=32) (by omega) (by decide)
 ·omega
theorem Qax (n:Nat): ∀{c:Nat},c<4294967296->O3 n c<4294967296:=by
 induction n with
 |zero=>intro c h;exact h
 |succ n ih=>intro c h;exact ih (C5 h)
theorem O4 (n c:Nat):O3 (n+1) c=Uo (O3 n c):=by
 induction n generalizing c with
 |zero=>rfl
 |succ n ih=>exact ih (Uo c)
theorem Qnq {c:Nat} (h:c<4294967296) (b:UInt8):c^^^b.toNat<4294967296:=
 Nat.xor_lt_two_pow (n:=32) h (by have:=b.toNat_lt;omega)
theorem Qay {c:Nat} (h:c<4294967296) (b:UInt8):Q4h c b<4294967296:=Qax 8 (Qnq h b)
theorem Qfk (l:List UInt8): ∀{c:Nat},c<4294967296->Fy c l<4294967296:=by
 induction l with
 |nil=>intro c h;exact h
 |cons b l ih=>intro c h;exact ih (Qay h b)
theorem Q4i (l:List UInt8):crc l<4294967296:=Nat.xor_lt_two_pow (n:=32) (Qfk l (by decide)) (by decide)
theorem B4 (c:Nat) (l:List UInt8) (b:UInt8):Fy c (l++[b])=Q4h (Fy c l) b:=by simp [Fy]
theorem Q2m (c:Nat) (l k:List UInt8):Fy c (l++k)=Fy (Fy c l) k:=by simp [Fy]
def pk (m c:Int):Nat:=m.toNat*65536+c.toNat
def Za (m c:Int):Bool:=decide (0<=m)&&decide (m<=281474976710655)&&decide (0<=c)&&decide (c<=65535)
theorem Zw {m c:Int}:Za m c=true↔0<=m/\m<=281474976710655/\0<=c/\c<=65535:=by simp [Za,and_assoc]
def Q6o (ops:Array Oper) (z i:Nat):Prop:= ∀o,ops[z]?=some o-> ∃e∈o.after,Region.binds .any e=true/\e.on=i
def Qcn (ops:Array Oper) (z i:Nat):Bool:=match ops[z]? with
 |some o=>o.after.any λe=>Region.binds .any e&&e.on==i
 |none=>true
theorem Q9h {ops:Array Oper} {z i:Nat} (h:Qcn ops z i=true):Q6o ops z i:=λo ho=>by
 unfold Qcn at h;rw [ho] at h;obtain ⟨e,he,hb⟩:=Array.any_eq_true'.1 h;simp only [Bool.and_eq_true,beq_iff_eq] at hb;exact ⟨e,he,hb.1,hb.2⟩
theorem Q3u (f:Array Bool->Nat->Bool): ∀(l:List Nat) (acc:Array Bool),(l.foldl (λacc j=>acc.push (f acc j)) acc).size=acc.size+l.length
 |[],acc=>by simp
 |x::l,acc=>by
  rw [List.foldl_cons,Q3u f l,Array.size_push,List.length_cons];omega
theorem B5 (ops:Array Oper) (i:Nat):(V3 ops i).size=ops.size:=by
 have h:=Q3u (λacc j=>match ops[j]? with
  |some o=>o.after.any λe=>Region.binds .any e&&(e.on==i||acc.getD e.on false)
  |none=>false) (List.range ops.size) #[]
 simp only [List.length_range,List.size_toArray,List.length_nil,Nat.zero_add] at h;exact h
section
variable {P:Program} {ops:Array Oper} {Q:Exit->Act->World->Prop} {S:World->Prop} {ks:List Nat} {z:Nat}
def Ax (P:Program) (ops:Array Oper) (ks:List Nat) (z:Nat) (S:World->Prop) (Q:Exit->Act->World->Prop):Nat->Array Bool->Act->World->Prop
 |0,listed,a,w=>Region.ready .any ops listed=[]/\ ∀n,Q .normal a (w.drewN n)
 |fuel+1,listed,a,w=>
  (Region.ready .any ops listed=[]-> ∀n,Q .normal a (w.drewN n))/\
  ∀i∈Region.ready .any ops listed,∀o,ops[i]?=some o->
   if ks.getD i 2=2 then ∀n,wpOp P ops Q i (λa' w'=>(i=z\/S w')/\Ax P ops ks z S Q fuel (listed.setIfInBounds i true) a' w') a (w.drewN n)
   else ∃v,YieldsIn P ops (Dr w) o v a/\Ax P ops ks z S Q fuel (listed.setIfInBounds i true) (a.put o.dst v) w
theorem Gx: ∀(fuel:Nat) (listed:Array Bool) (a:Act) (w:World) (n:Nat),Ax P ops ks z S Q fuel listed a w->wpAny P .any ops Q fuel listed a (w.drewN n)
 |0,_,_,_,n,h=>⟨h.1,h.2 n⟩
 |fuel+1,listed,a,w,n,h=>by
  refine ⟨λh0=>h.1 h0 n,λi hi=>?_⟩;obtain ⟨_,o,ho,_⟩:=mem_ready.1 hi;have h2:=h.2 i hi o ho;split at h2
  ·exact wpOp_mono (λa w hh=>Gx fuel _ a w 0 hh.2) (h2 n)
  ·obtain ⟨v,hy,hk⟩:=h2;exact wpOp_of_qOp (C:=Dr w) (K:=λa=>Ax P ops ks z S Q fuel (listed.setIfInBounds i true) a w) ⟨n,rfl⟩ (λa' w' ⟨m,hw'⟩ hh=>by subst hw';exact Gx fuel _ a' w m hh) (hy.qOp ho hk)
theorem Qf9 {i:Nat} {oi:Oper} {v:Value} (hz:Q6o ops z i) (hSd: ∀w n,S w->S (w.drewN n)) (hi:ops[i]?=some oi) (hki:ks.getD i 2≠2) (hsel: ∀(j:Nat) (o:Oper) cs b,ops[j]?=some o->o.op≠ .select cs b)
  (hQ: ∀c a w,Q (.panic c) (a.put oi.dst v) w->Q (.panic c) a w):
  ∀(fuel:Nat) (listed:Array Bool) (a:Act) (w:World),S w->
   (∀j oj,ops[j]?=some oj->j≠i->listed.getD j true=false->(∀e∈oj.after,Region.binds .any e=true->e.on≠i)->oi.apart ops oj=true)->
   i∈Region.ready .any ops listed->YieldsIf P ops S oi v a->
   Ax P ops ks z S Q fuel (listed.setIfInBounds i true) (a.put oi.dst v) w->Ax P ops ks z S Q (fuel+1) listed a w:=by
 intro fuel;induction fuel with
 |zero=>
  intro listed a w hS _ hr hy H;refine ⟨λh=>(by rw [h] at hr;cases hr),λj hj o ho=>?_⟩;by_cases hji:j=i
  ·subst hji;rw [hi] at ho;injection ho with ho;subst ho;rw [if_neg hki];exact ⟨v,Zf (λn=>hSd w n hS) hy,H⟩
  ·have:=ready_mono hj hji;rw [H.1] at this;cases this
 |succ fuel ih=>
  intro listed a w hS hfree hr hy H;refine ⟨λh=>(by rw [h] at hr;cases hr),λj hj o ho=>?_⟩;by_cases hji:j=i
  ·subst hji;rw [hi] at ho;injection ho with ho;subst ho;rw [if_neg hki];exact ⟨v,Zf (λn=>hSd w n hS) hy,H⟩
  ·have h1:=H.2 j (ready_mono hj hji) o ho;obtain ⟨hjun,oj,hoj,hall⟩:=mem_ready.1 hj;rw [ho] at hoj;injection hoj with hoj;subst hoj
   have hnot: ∀e∈o.after,Region.binds .any e=true->e.on≠i:=λe he hb heq=>by
    have h1:=hall e he hb;have h0:=(mem_ready.1 hr).1;rw [heq] at h1;rcases Nat.lt_or_ge i listed.size with h'|h'
    ·simp [h'] at h0 h1;rw [h0] at h1;cases h1
    ·simp [Array.getElem?_eq_none h'] at h1
   have hjz:j≠z:=λe=>by
    subst e;obtain ⟨e,he,hb,hon⟩:=hz o ho;exact hnot e he hb hon
   have hap:=hfree j o ho hji hjun hnot
   have hfree': ∀k ok,ops[k]?=some ok->k≠i->(listed.setIfInBounds j true).getD k true=false->
     (∀e∈ok.after,Region.binds .any e=true->e.on≠i)->oi.apart ops ok=true:=λk ok hk hki hun hno=>by
    refine hfree k ok hk hki ?_ hno;by_cases hjk:j=k
    ·subst hjk;exact hjun
    ·rw [getD_set_ne true hjk] at hun;exact hun
   have hcm:(listed.setIfInBounds i true).setIfInBounds j true=(listed.setIfInBounds j true).setIfInBounds i true:=Array.setIfInBounds_comm _ _ (λe=>hji e.symm);by_cases hk2:ks.getD j 2=2
   ·rw [if_pos hk2] at h1⊢;intro n;have h2:=wpOp_putIf ho hap (λcs b=>hsel i oi cs b hi) (λcs b=>hsel j o cs b ho) hQ hy (h1 n);refine wpOp_mono (λa' w' h3=>⟨h3.2.1,ih (listed.setIfInBounds j true) a' w' (h3.2.1.resolve_left hjz) hfree' (ready_mono hr (Ne.symm hji)) h3.1 ?_⟩) h2;rw [<-hcm];exact h3.2.2
   ·rw [if_neg hk2] at h1⊢;obtain ⟨u,hu,hK⟩:=h1;obtain ⟨a1,a2,a3⟩:=Oper.apart_spec hap;refine ⟨u,hu.of_same (execOp_put o (λcs b=>hsel j o cs b ho) a oi.dst v a1).symm (wanted_put o a oi.dst v a1).symm,?_⟩
    refine ih (listed.setIfInBounds j true) _ w hS hfree' (ready_mono hr (Ne.symm hji))
     (hy.of_same (execOp_put oi (λcs b=>hsel i oi cs b hi) a o.dst u a3) (wanted_put oi a o.dst u a3)) ?_
    rw [<-hcm,<-Act.put_comm a v u a2];exact hK
theorem Qap {i:Nat} {oi:Oper} {v:Value} {dep:Array Bool} (hz:dep.getD z false=true) (hSd: ∀w n,S w->S (w.drewN n)) (hi:ops[i]?=some oi) (hki:ks.getD i 2≠2) (hsel: ∀(j:Nat) (o:Oper) cs b,ops[j]?=some o->o.op≠ .select cs b)
  (hQ: ∀c a w,Q (.panic c) (a.put oi.dst v) w->Q (.panic c) a w):
  ∀(fuel:Nat) (listed:Array Bool) (a:Act) (w:World),S w->
   (∀j oj,ops[j]?=some oj->j≠i->listed.getD j true=false->(∀e∈oj.after,Region.binds .any e=true->e.on≠i)->oi.apart ops oj=true)->
   (∀j,dep.getD j false=true->j≠i/\listed.getD j true=false/\ ∃o,ops[j]?=some o/\ ∃e∈o.after,Region.binds .any e=true/\(e.on=i\/dep.getD e.on false=true))->
   i∈Region.ready .any ops listed->YieldsIf P ops S oi v a->
   Ax P ops ks z S Q fuel (listed.setIfInBounds i true) (a.put oi.dst v) w->Ax P ops ks z S Q (fuel+1) listed a w:=by
 intro fuel;induction fuel with
 |zero=>
  intro listed a w hS _ _ hr hy H;refine ⟨λh=>(by rw [h] at hr;cases hr),λj hj o ho=>?_⟩;by_cases hji:j=i
  ·subst hji;rw [hi] at ho;injection ho with ho;subst ho;rw [if_neg hki];exact ⟨v,Zf (λn=>hSd w n hS) hy,H⟩
  ·have:=ready_mono hj hji;rw [H.1] at this;cases this
 |succ fuel ih=>
  intro listed a w hS hfree L3 hr hy H;refine ⟨λh=>(by rw [h] at hr;cases hr),λj hj o ho=>?_⟩;by_cases hji:j=i
  ·subst hji;rw [hi] at ho;injection ho with ho;subst ho;rw [if_neg hki];exact ⟨v,Zf (λn=>hSd w n hS) hy,H⟩
  ·have h1:=H.2 j (ready_mono hj hji) o ho;obtain ⟨hjun,oj,hoj,hall⟩:=mem_ready.1 hj;rw [ho] at hoj;injection hoj with hoj;subst hoj
   have hnot: ∀e∈o.after,Region.binds .any e=true->e.on≠i:=λe he hb heq=>by
    have h1:=hall e he hb;have h0:=(mem_ready.1 hr).1;rw [heq] at h1;rcases Nat.lt_or_ge i listed.size with h'|h'
    ·simp [h'] at h0 h1;rw [h0] at h1;cases h1
    ·simp [Array.getElem?_eq_none h'] at h1
   have Qog: ∀k,listed.getD k true=false->listed.getD k false=true->False:=λk h0 h1=>by
    rcases Nat.lt_or_ge k listed.size with h'|h'
    ·simp [h'] at h0 h1;rw [h0] at h1;cases h1
    ·simp [Array.getElem?_eq_none h'] at h1
   have hnd:dep.getD j false=false:=by
    cases hd:dep.getD j false with
    |false=>rfl
    |true=>
     obtain ⟨_,_,o',ho',e,he,hb,h⟩:=L3 j hd;rw [ho] at ho';injection ho' with ho';subst ho';rcases h with h|h
     ·exact absurd h (hnot e he hb)
     ·exact (Qog e.on (L3 e.on h).2.1 (hall e he hb)).elim
   have hjz:j≠z:=λe=>by
    subst e;rw [hz] at hnd;cases hnd
   have Qds: ∀k,dep.getD k false=true->k≠i/\(listed.setIfInBounds j true).getD k true=false/\ ∃o,ops[k]?=some o/\ ∃e∈o.after,Region.binds .any e=true/\(e.on=i\/dep.getD e.on false=true):=λk hk=>by
    obtain ⟨k1,k2,k3⟩:=L3 k hk;refine ⟨k1,?_,k3⟩;rw [getD_set_ne true (λe=>by subst e;rw [hnd] at hk;cases hk)];exact k2
   have hap:=hfree j o ho hji hjun hnot
   have hfree': ∀k ok,ops[k]?=some ok->k≠i->(listed.setIfInBounds j true).getD k true=false->
     (∀e∈ok.after,Region.binds .any e=true->e.on≠i)->oi.apart ops ok=true:=λk ok hk hki hun hno=>by
    refine hfree k ok hk hki ?_ hno;by_cases hjk:j=k
    ·subst hjk;exact hjun
    ·rw [getD_set_ne true hjk] at hun;exact hun
   have hcm:(listed.setIfInBounds i true).setIfInBounds j true=(listed.setIfInBounds j true).setIfInBounds i true:=Array.setIfInBounds_comm _ _ (λe=>hji e.symm);by_cases hk2:ks.getD j 2=2
   ·rw [if_pos hk2] at h1⊢;intro n;have h2:=wpOp_putIf ho hap (λcs b=>hsel i oi cs b hi) (λcs b=>hsel j o cs b ho) hQ hy (h1 n);refine wpOp_mono (λa' w' h3=>⟨h3.2.1,ih (listed.setIfInBounds j true) a' w' (h3.2.1.resolve_left hjz) hfree' Qds (ready_mono hr (Ne.symm hji)) h3.1 ?_⟩) h2;rw [<-hcm];exact h3.2.2
   ·rw [if_neg hk2] at h1⊢;obtain ⟨u,hu,hK⟩:=h1;obtain ⟨a1,a2,a3⟩:=Oper.apart_spec hap;refine ⟨u,hu.of_same (execOp_put o (λcs b=>hsel j o cs b ho) a oi.dst v a1).symm (wanted_put o a oi.dst v a1).symm,?_⟩
    refine ih (listed.setIfInBounds j true) _ w hS hfree' Qds (ready_mono hr (Ne.symm hji))
     (hy.of_same (execOp_put oi (λcs b=>hsel i oi cs b hi) a o.dst u a3) (wanted_put oi a o.dst u a3)) ?_
    rw [<-hcm,<-Act.put_comm a v u a2];exact hK
theorem Qaq {w:World} {i:Nat} {oi:Oper} {v:Value} {dep:Array Bool} (hi:ops[i]?=some oi) (hki:ks.getD i 2≠2) (hsel: ∀(j:Nat) (o:Oper) cs b,ops[j]?=some o->o.op≠ .select cs b):
  ∀(fuel:Nat) (listed:Array Bool) (a:Act),
   (∀j oj,ops[j]?=some oj->j≠i->listed.getD j true=false->(∀e∈oj.after,Region.binds .any e=true->e.on≠i)->oi.apart ops oj=true)->
   (∀j,dep.getD j false=true->j≠i/\listed.getD j true=false/\ ∃o,ops[j]?=some o/\ ∃e∈o.after,Region.binds .any e=true/\(e.on=i\/dep.getD e.on false=true))->
   (∀j oj,ops[j]?=some oj->dep.getD j false=false->j≠i->listed.getD j true=false->ks.getD j 2≠2)->
   i∈Region.ready .any ops listed->YieldsIn P ops (Dr w) oi v a->
   Ax P ops ks z S Q fuel (listed.setIfInBounds i true) (a.put oi.dst v) w->Ax P ops ks z S Q (fuel+1) listed a w:=by
 intro fuel;induction fuel with
 |zero=>
  intro listed a _ _ _ hr hy H;refine ⟨λh=>(by rw [h] at hr;cases hr),λj hj o ho=>?_⟩;by_cases hji:j=i
  ·subst hji;rw [hi] at ho;injection ho with ho;subst ho;rw [if_neg hki];exact ⟨v,hy,H⟩
  ·have:=ready_mono hj hji;rw [H.1] at this;cases this
 |succ fuel ih=>
  intro listed a hfree L3 hkind hr hy H;refine ⟨λh=>(by rw [h] at hr;cases hr),λj hj o ho=>?_⟩;by_cases hji:j=i
  ·subst hji;rw [hi] at ho;injection ho with ho;subst ho;rw [if_neg hki];exact ⟨v,hy,H⟩
  ·have h1:=H.2 j (ready_mono hj hji) o ho;obtain ⟨hjun,oj,hoj,hall⟩:=mem_ready.1 hj;rw [ho] at hoj;injection hoj with hoj;subst hoj
   have Qog: ∀k,listed.getD k true=false->listed.getD k false=true->False:=λk h0 h1=>by
    rcases Nat.lt_or_ge k listed.size with h'|h'
    ·simp [h'] at h0 h1;rw [h0] at h1;cases h1
    ·simp [Array.getElem?_eq_none h'] at h1
   have hnot: ∀e∈o.after,Region.binds .any e=true->e.on≠i:=λe he hb heq=>
    Qog i (mem_ready.1 hr).1 (heq▸hall e he hb)
   have hnd:dep.getD j false=false:=by
    cases hd:dep.getD j false with
    |false=>rfl
    |true=>
     obtain ⟨_,_,o',ho',e,he,hb,h⟩:=L3 j hd;rw [ho] at ho';injection ho' with ho';subst ho';rcases h with h|h
     ·exact absurd h (hnot e he hb)
     ·exact (Qog e.on (L3 e.on h).2.1 (hall e he hb)).elim
   have hap:=hfree j o ho hji hjun hnot
   have hset: ∀k,(listed.setIfInBounds j true).getD k true=false->listed.getD k true=false:=λk hun=>by
    by_cases hjk:j=k
    ·subst hjk;exact hjun
    ·rw [getD_set_ne true hjk] at hun;exact hun
   have hfree': ∀k ok,ops[k]?=some ok->k≠i->(listed.setIfInBounds j true).getD k true=false->
     (∀e∈ok.after,Region.binds .any e=true->e.on≠i)->oi.apart ops ok=true:=λk ok hk hki hun hno=>hfree k ok hk hki (hset k hun) hno
   have hcm:(listed.setIfInBounds i true).setIfInBounds j true=(listed.setIfInBounds j true).setIfInBounds i true:=Array.setIfInBounds_comm _ _ (λe=>hji e.symm);have hk2:=hkind j o ho hnd hji hjun;rw [if_neg hk2] at h1⊢;obtain ⟨u,hu,hK⟩:=h1;obtain ⟨a1,a2,a3⟩:=Oper.apart_spec hap;refine ⟨u,hu.of_same (execOp_put o (λcs b=>hsel j o cs b ho) a oi.dst v a1).symm (wanted_put o a oi.dst v a1).symm,?_⟩
   refine ih (listed.setIfInBounds j true) _ hfree' (λk hk=>?_) (λk ok hk h1 h2 h3=>hkind k ok hk h1 h2 (hset k h3)) (ready_mono hr (Ne.symm hji))
    (hy.of_same (execOp_put oi (λcs b=>hsel i oi cs b hi) a o.dst u a3) (wanted_put oi a o.dst u a3)) ?_
   ·obtain ⟨k1,k2,k3⟩:=L3 k hk;refine ⟨k1,?_,k3⟩;rw [getD_set_ne true (λe=>by subst e;rw [hnd] at hk;cases hk)];exact k2
   ·rw [<-hcm,<-Act.put_comm a v u a2];exact hK
def I1 (ops:Array Oper) (listed dep:Array Bool) (i z:Nat):Bool:=
 dep.getD z false&&(List.range ops.size).all λj=>
  !dep.getD j false||(j !=i&&!listed.getD j true&&match ops[j]? with
   |some o=>o.after.any λe=>Region.binds .any e&&(e.on==i||dep.getD e.on false)
   |none=>false)
theorem Uy {listed:Array Bool} {i:Nat} (hk:I1 ops listed (V3 ops i) i z=true):(V3 ops i).getD z false=true/\
  ∀j,(V3 ops i).getD j false=true->j≠i/\listed.getD j true=false/\ ∃o,ops[j]?=some o/\ ∃e∈o.after,Region.binds .any e=true/\(e.on=i\/(V3 ops i).getD e.on false=true):=by
 simp only [I1,Bool.and_eq_true,List.all_eq_true,List.mem_range] at hk;refine ⟨hk.1,λj hj=>?_⟩
 have hjs:j<ops.size:=by
  rcases Nat.lt_or_ge j (V3 ops i).size with h'|h'
  ·have:=B5 ops i;omega
  ·simp [Array.getElem?_eq_none h'] at hj
 have h1:=hk.2 j hjs;rw [hj] at h1;simp only [Bool.not_true,Bool.false_or,Bool.and_eq_true,bne_iff_ne,Bool.not_eq_true'] at h1;obtain ⟨⟨h1,h2⟩,h3⟩:=h1;refine ⟨h1,h2,?_⟩;split at h3
 ·rename_i oj hoj
  obtain ⟨e,he,hb⟩:=Array.any_eq_true'.1 h3;simp only [Bool.and_eq_true,Bool.or_eq_true,beq_iff_eq] at hb;exact ⟨oj,hoj,e,he,hb.1,hb.2⟩
 ·cases h3
def Q13 (ops:Array Oper) (ks:List Nat) (z:Nat):List Nat->Array Bool->Bool
 |[],listed=>Region.ready .any ops listed==[z]&&ks.getD z 2==2&&(Region.ready .any ops (listed.setIfInBounds z true)).isEmpty
 |i::rest,listed=>
  (Region.ready .any ops listed).contains i&&Region.free .any ops listed i&&i !=z&&
  (match ks.getD i 2 with
   |0=>Qcn ops z i||Region.ready .any ops listed==[i]||I1 ops listed (V3 ops i) i z
   |1=>Q4k ops ks listed (V3 ops i) i
   |2=>Region.ready .any ops listed==[i]
   |_=>false)&&
  Q13 ops ks z rest (listed.setIfInBounds i true)
def Qlv (ops:Array Oper) (ks:List Nat) (z:Nat) (pre:List Nat):Bool:=Region.noSelect ops&&pre.length+1==ops.size&&Q13 ops ks z pre (Array.replicate ops.size false)
def Qmb (K:Act->World->Prop):Exit->Act->World->Prop
 | .normal,a,w=>K a w
 |_,_,_=>False
theorem Qnh {Q1 Q2:Exit->Act->World->Prop} {o:Oper} {a:Act} {w:World} {K:Act->World->Prop} (h:o.wp P a w K (only Q1)):o.wp P a w K Q2:=by
 unfold Oper.wp at*;generalize (execOp a.eval o).run P w=r at*
 cases r with
 |ok n w'=>
  cases n<;>simp only [Oper.upon] at h⊢
  case value=>exact h
  case skip=>exact h
  case defer=>exact h
  case row=>exact h
  case enter f args=>
   refine Calls.mono h λe w'' he=>?_;cases e with
   |returned v=>exact he
   |panicked c=>exact he.elim
   |outgrown=>obtain ⟨_,_,h⟩:=he;exact h.elim
 |halt x w'=>cases x<;>simp only [Oper.upon] at h⊢;exact h.elim
theorem Qcp {Q1 Q2:Exit->Act->World->Prop} {i:Nat} {K:Act->World->Prop} {a:Act} {w:World} (h:wpOp P ops (only Q1) i K a w):wpOp P ops (only Q2) i K a w:=by
 unfold wpOp at*;split
 ·rename_i hn;simp only [hn] at h;exact h
 ·rename_i o ho
  simp only [ho] at h;split
  ·rename_i hw
   simp only [hw,if_true] at h;exact .inl (h.elim Qnh λ⟨_,_,_,hh⟩=>hh.elim)
  ·rename_i hw;simp only [hw] at h;exact h
abbrev Qlw (P:Program) (ops:Array Oper) (ks:List Nat) (Q:Exit->Act->World->Prop) (z:Nat):Exit->Act->World->Prop:=Qmb λa w=>Ji P ops ks (λ_=>True) Q [z] a w
theorem Vq (hSd: ∀w n,S w->S (w.drewN n)) (hs:Region.noSelect ops=true): ∀(pre:List Nat) (listed:Array Bool) (a:Act) (w:World),S w->
  Q13 ops ks z pre listed=true->Ji P ops ks S (Qlw P ops ks Q z) pre a w->Ax P ops ks z S (only Q) (pre.length+1) listed a w
 |[],listed,a,w,_,hB,h=>by
  simp only [Q13,Bool.and_eq_true,beq_iff_eq,List.isEmpty_iff] at hB;obtain ⟨⟨hr,hk⟩,hB'⟩:=hB;obtain ⟨o,ho,h⟩:=h 0;rw [hk] at h;refine ⟨λh0=>(by rw [h0] at hr;cases hr),λj hj oj hoj=>?_⟩;rw [hr] at hj;simp only [List.mem_singleton] at hj;subst hj;rw [ho] at hoj;injection hoj with hoj;subst hoj;rw [if_pos hk];exact λn=>wpOp_mono (λa w hh=>⟨.inl rfl,hB',hh.2⟩) (show wpOp P ops (only Q) j (λa' w'=>True/\Ji P ops ks (λ_=>True) Q [] a' w') a (w.drewN n) from h n)
 |i::rest,listed,a,w,hS,hB,h=>by
  obtain ⟨o,ho,h⟩:=h;simp only [Q13,Bool.and_eq_true] at hB;obtain ⟨⟨⟨⟨hr,hf⟩,hiz⟩,hk⟩,hB'⟩:=hB;have Gs:i∈Region.ready .any ops listed:=by simpa using hr
  have hko:ks.getD i 2=0\/ks.getD i 2=1\/ks.getD i 2=2:=by
   split at hk
   ·rename_i h;exact .inl h
   ·rename_i h;exact .inr (.inl h)
   ·rename_i h;exact .inr (.inr h)
   ·cases hk
  rcases hko with hko|hko|hko
  ·rw [hko] at h;obtain ⟨v,hy,hK⟩:=h;rw [hko] at hk;simp only [Bool.or_eq_true,beq_iff_eq] at hk;rcases hk with (hk|hk)|hk
   ·exact Qf9 (Q9h hk) hSd ho (by omega) (Region.noSelect_spec hs) (λ_ _ _ h=>h.elim) (rest.length+1) listed a w hS (Region.free_spec ho hf) Gs hy (Vq hSd hs rest _ _ _ hS hB' hK)
   ·refine ⟨λh0=>(by rw [h0] at hk;cases hk),λj hj oj hoj=>?_⟩;rw [hk] at hj;simp only [List.mem_singleton] at hj;subst hj;rw [ho] at hoj;injection hoj with hoj;subst hoj;rw [if_neg (by omega)];exact ⟨v,Zf (λn=>hSd w n hS) hy,Vq hSd hs rest _ _ _ hS hB' hK⟩
   ·exact Qap (Uy hk).1 hSd ho (by omega) (Region.noSelect_spec hs) (λ_ _ _ h=>h.elim) (rest.length+1) listed a w hS (Region.free_spec ho hf) (Uy hk).2 Gs hy (Vq hSd hs rest _ _ _ hS hB' hK)
  ·rw [hko] at h hk;obtain ⟨v,hy,hK⟩:=h;simp only [Q4k,List.all_eq_true,List.mem_range,Bool.and_eq_true] at hk;have hlt: ∀j oj,ops[j]?=some oj->j<ops.size:=λj oj h=>(Array.getElem?_eq_some_iff.1 h).1;refine Qaq (dep:=V3 ops i) ho (by omega) (Region.noSelect_spec hs) (rest.length+1) listed a (Region.free_spec ho hf) (λj hj=>?_) (λj oj hoj hd hne hun=>?_) Gs hy (Vq hSd hs rest _ _ _ hS hB' hK)
   ·have hjs:j<ops.size:=by
     rcases Nat.lt_or_ge j (V3 ops i).size with h'|h'
     ·have:=B5 ops i;omega
     ·simp [Array.getElem?_eq_none h'] at hj
    have h1:=(hk j hjs).1;rw [hj] at h1;simp only [Bool.not_true,Bool.false_or,Bool.and_eq_true,bne_iff_ne,Bool.not_eq_true'] at h1;obtain ⟨⟨h1,h2⟩,h3⟩:=h1;refine ⟨h1,h2,?_⟩;split at h3
    ·rename_i oj hoj
     obtain ⟨e,he,hb⟩:=Array.any_eq_true'.1 h3;simp only [Bool.and_eq_true,Bool.or_eq_true,beq_iff_eq] at hb;exact ⟨oj,hoj,e,he,hb.1,hb.2⟩
    ·cases h3
   ·have h1:=(hk j (hlt j oj hoj)).2;rw [hd] at h1;simp only [Bool.false_or,Bool.or_eq_true,beq_iff_eq,bne_iff_ne] at h1;rcases h1 with (h1|h1)|h1
    ·exact absurd h1 hne
    ·rw [hun] at h1;cases h1
    ·exact h1
  ·rw [hko] at h hk;have hk':Region.ready .any ops listed=[i]:=by simpa using hk
   refine ⟨λh0=>(by rw [h0] at hk';cases hk'),λj hj oj hoj=>?_⟩;rw [hk'] at hj;simp only [List.mem_singleton] at hj;subst hj;rw [ho] at hoj;injection hoj with hoj;subst hoj;rw [if_pos hko];exact λn=>wpOp_mono (λa w hh=>⟨.inr hh.1,Vq hSd hs rest _ a w hh.1 hB' hh.2⟩) (Qcp (h n))
theorem Jk {id:Nat} {a:Act} {w:World} {l:List Oper} (S:World->Prop) (ks pre:List Nat) (z:Nat) (hm:P.follows .mixedOrders=true) (hB:Qlv l.toArray ks z pre=true)
  (hSd: ∀w n,S w->S (w.drewN n)) (hS:S w) (h:Ji P l.toArray ks S (Qlw P l.toArray ks Q z) pre a w):(Code.region id l.toArray true).wp P Q a w:=by
 simp only [Qlv,Bool.and_eq_true,beq_iff_eq] at hB;refine wp_region_any hm (On _ _ _ _ ?_);have:=Gx _ (Array.replicate l.toArray.size false) a w 1 (Vq hSd hB.1.1 pre _ a _ hS hB.2 h);rw [hB.1.2] at this;exact this
theorem Yu {a:Act} {w:World} (h: ∀n,Ji P ops ks (λ_=>True) Q [z] a (w.drewN n)):Ji P ops ks S (Qlw P ops ks Q z) [] a w:=h
end
end Go.Mer
