/-
  Region, Maps, Tok, Last.
-/
import Derived.Deep.Quiet
import Derived.OrdersHeld
import Derived.WalkKit
import Derived.Maps.RangeRun
import Derived.Maps.OwnOps
theorem Go.zz{p:Prop}(h:p):Go.RowKit.Hid p:=h
namespace Go.Mer
open Go
def Xr (ops:Array Oper) (i:Nat):Array Bool:=
 (List.range ops.size).foldl (λacc j=>acc.push (match ops[j]? with
  |some o=>o.after.any λe=>Region.binds .any e&&(e.on==i||acc.getD e.on false)
  |none=>false)) #[]
def Q27 (ops:Array Oper) (ks:List Nat) (listed dep:Array Bool) (i:Nat):Bool:=
 (List.range ops.size).all λj=>
  (!dep.getD j false||(j !=i&&!listed.getD j true&&match ops[j]? with
   |some o=>o.after.any λe=>Region.binds .any e&&(e.on==i||dep.getD e.on false)
   |none=>false))&&
  (dep.getD j false||j==i||listed.getD j true||ks.getD j 2 !=2)
def Df (ops:Array Oper) (ks:List Nat):List Nat->Array Bool->Bool
 |[],listed=>(Region.ready .any ops listed).isEmpty
 |i::rest,listed=>
  (Region.ready .any ops listed).contains i&&Region.free .any ops listed i&&
  (match ks.getD i 2 with
   |0=>true
   |1=>Q27 ops ks listed (Xr ops i) i
   |2=>Region.ready .any ops listed==[i]
   |_=>false)&&
  Df ops ks rest (listed.setIfInBounds i true)
def Qhp (ops:Array Oper) (ks ord:List Nat):Bool:=Region.noSelect ops&&ord.length==ops.size&&Df ops ks ord (Array.replicate ops.size false)
def Dr (w:World):World->Prop:=λw'=> ∃n,w'=w.drewN n
section
variable {P:Program} {ops:Array Oper} {Q:Exit->Act->World->Prop} {S:World->Prop} {ks:List Nat}
def Hz (P:Program) (ops:Array Oper) (ks:List Nat) (S:World->Prop) (Q:Exit->Act->World->Prop):Nat->Array Bool->Act->World->Prop
 |0,listed,a,w=>Region.ready .any ops listed=[]/\ ∀n,Q .normal a (w.drewN n)
 |fuel+1,listed,a,w=>
  (Region.ready .any ops listed=[]-> ∀n,Q .normal a (w.drewN n))/\
  ∀i∈Region.ready .any ops listed,∀o,ops[i]?=some o->
   if ks.getD i 2=2 then ∀n,wpOp P ops Q i (λa' w'=>S w'/\Hz P ops ks S Q fuel (listed.setIfInBounds i true) a' w') a (w.drewN n)
   else ∃v,YieldsIn P ops (Dr w) o v a/\Hz P ops ks S Q fuel (listed.setIfInBounds i true) (a.put o.dst v) w
theorem Ue: ∀(fuel:Nat) (listed:Array Bool) (a:Act) (w:World) (n:Nat),Hz P ops ks S Q fuel listed a w->wpAny P .any ops Q fuel listed a (w.drewN n)
 |0,_,_,_,n,h=>⟨h.1,h.2 n⟩
 |fuel+1,listed,a,w,n,h=>by
  refine ⟨λh0=>h.1 h0 n,λi hi=>?_⟩;obtain ⟨_,o,ho,_⟩:=mem_ready.1 hi;have h2:=h.2 i hi o ho;split at h2
  ·exact wpOp_mono (λa w hh=>Ue fuel _ a w 0 hh.2) (h2 n)
  ·obtain ⟨v,hy,hk⟩:=h2;exact wpOp_of_qOp (C:=Dr w) (K:=λa=>Hz P ops ks S Q fuel (listed.setIfInBounds i true) a w) ⟨n,rfl⟩ (λa' w' ⟨m,hw'⟩ hh=>by subst hw';exact Ue fuel _ a' w m hh) (hy.qOp ho hk)
theorem Z4 {w:World} {o:Oper} {v:Value} {a:Act} (hS: ∀n,S (w.drewN n)) (h:YieldsIf P ops S o v a):YieldsIn P ops (Dr w) o v a:=
 h.imp (λ⟨x,y⟩=>⟨x,λw' ⟨n,hn⟩=>by subst hn;unfold Oper.quietAt;rw [y _ (hS n)];exact ⟨rfl,rfl⟩⟩) id
theorem Q0w {i:Nat} {oi:Oper} {v:Value} (hSd: ∀w n,S w->S (w.drewN n)) (hi:ops[i]?=some oi) (hki:ks.getD i 2≠2) (hsel: ∀(j:Nat) (o:Oper) cs b,ops[j]?=some o->o.op≠ .select cs b)
  (hQ: ∀c a w,Q (.panic c) (a.put oi.dst v) w->Q (.panic c) a w):
  ∀(fuel:Nat) (listed:Array Bool) (a:Act) (w:World),S w->
   (∀j oj,ops[j]?=some oj->j≠i->listed.getD j true=false->(∀e∈oj.after,Region.binds .any e=true->e.on≠i)->oi.apart ops oj=true)->
   i∈Region.ready .any ops listed->YieldsIf P ops S oi v a->
   Hz P ops ks S Q fuel (listed.setIfInBounds i true) (a.put oi.dst v) w->Hz P ops ks S Q (fuel+1) listed a w:=by
 intro fuel;induction fuel with
 |zero=>
  intro listed a w hS _ hr hy H;refine ⟨λh=>(by rw [h] at hr;cases hr),λj hj o ho=>?_⟩;by_cases hji:j=i
  ·subst hji;rw [hi] at ho;injection ho with ho;subst ho;rw [if_neg hki];exact ⟨v,Z4 (λn=>hSd w n hS) hy,H⟩
  ·have:=ready_mono hj hji;rw [H.1] at this;cases this
 |succ fuel ih=>
  intro listed a w hS hfree hr hy H;refine ⟨λh=>(by rw [h] at hr;cases hr),λj hj o ho=>?_⟩;by_cases hji:j=i
  ·subst hji;rw [hi] at ho;injection ho with ho;subst ho;rw [if_neg hki];exact ⟨v,Z4 (λn=>hSd w n hS) hy,H⟩
  ·have h1:=H.2 j (ready_mono hj hji) o ho;obtain ⟨hjun,oj,hoj,hall⟩:=mem_ready.1 hj;rw [ho] at hoj;injection hoj with hoj;subst hoj
   have hnot: ∀e∈o.after,Region.binds .any e=true->e.on≠i:=λe he hb heq=>by
    have h1:=hall e he hb;have h0:=(mem_ready.1 hr).1;rw [heq] at h1;rcases Nat.lt_or_ge i listed.size with h'|h'
    ·simp [h'] at h0 h1;rw [h0] at h1;cases h1
    ·simp [Array.getElem?_eq_none h'] at h1
   have hap:=hfree j o ho hji hjun hnot
   have hfree': ∀k ok,ops[k]?=some ok->k≠i->(listed.setIfInBounds j true).getD k true=false->
     (∀e∈ok.after,Region.binds .any e=true->e.on≠i)->oi.apart ops ok=true:=λk ok hk hki hun hno=>by
    refine hfree k ok hk hki ?_ hno;by_cases hjk:j=k
    ·subst hjk;exact hjun
    ·rw [getD_set_ne true hjk] at hun;exact hun
   have hcm:(listed.setIfInBounds i true).setIfInBounds j true=(listed.setIfInBounds j true).setIfInBounds i true:=Array.setIfInBounds_comm _ _ (λe=>hji e.symm);by_cases hk2:ks.getD j 2=2
   ·rw [if_pos hk2] at h1⊢;intro n;have h2:=wpOp_putIf ho hap (λcs b=>hsel i oi cs b hi) (λcs b=>hsel j o cs b ho) hQ hy (h1 n);refine wpOp_mono (λa' w' h3=>⟨h3.2.1,ih (listed.setIfInBounds j true) a' w' h3.2.1 hfree' (ready_mono hr (Ne.symm hji)) h3.1 ?_⟩) h2;rw [<-hcm];exact h3.2.2
   ·rw [if_neg hk2] at h1⊢;obtain ⟨u,hu,hK⟩:=h1;obtain ⟨a1,a2,a3⟩:=Oper.apart_spec hap;refine ⟨u,hu.of_same (execOp_put o (λcs b=>hsel j o cs b ho) a oi.dst v a1).symm (wanted_put o a oi.dst v a1).symm,?_⟩
    refine ih (listed.setIfInBounds j true) _ w hS hfree' (ready_mono hr (Ne.symm hji))
     (hy.of_same (execOp_put oi (λcs b=>hsel i oi cs b hi) a o.dst u a3) (wanted_put oi a o.dst u a3)) ?_
    rw [<-hcm,<-Act.put_comm a v u a2];exact hK
theorem Q7m {w:World} {i:Nat} {oi:Oper} {v:Value} {dep:Array Bool} (hi:ops[i]?=some oi) (hki:ks.getD i 2≠2) (hsel: ∀(j:Nat) (o:Oper) cs b,ops[j]?=some o->o.op≠ .select cs b):
  ∀(fuel:Nat) (listed:Array Bool) (a:Act),
   (∀j oj,ops[j]?=some oj->j≠i->listed.getD j true=false->(∀e∈oj.after,Region.binds .any e=true->e.on≠i)->oi.apart ops oj=true)->
   (∀j,dep.getD j false=true->j≠i/\listed.getD j true=false/\ ∃o,ops[j]?=some o/\ ∃e∈o.after,Region.binds .any e=true/\(e.on=i\/dep.getD e.on false=true))->
   (∀j oj,ops[j]?=some oj->dep.getD j false=false->j≠i->listed.getD j true=false->ks.getD j 2≠2)->
   i∈Region.ready .any ops listed->YieldsIn P ops (Dr w) oi v a->
   Hz P ops ks S Q fuel (listed.setIfInBounds i true) (a.put oi.dst v) w->Hz P ops ks S Q (fuel+1) listed a w:=by
 intro fuel;induction fuel with
 |zero=>
  intro listed a _ _ _ hr hy H;refine ⟨λh=>(by rw [h] at hr;cases hr),λj hj o ho=>?_⟩;by_cases hji:j=i
  ·subst hji;rw [hi] at ho;injection ho with ho;subst ho;rw [if_neg hki];exact ⟨v,hy,H⟩
  ·have:=ready_mono hj hji;rw [H.1] at this;cases this
 |succ fuel ih=>
  intro listed a hfree Nh hkind hr hy H;refine ⟨λh=>(by rw [h] at hr;cases hr),λj hj o ho=>?_⟩;by_cases hji:j=i
  ·subst hji;rw [hi] at ho;injection ho with ho;subst ho;rw [if_neg hki];exact ⟨v,hy,H⟩
  ·have h1:=H.2 j (ready_mono hj hji) o ho;obtain ⟨hjun,oj,hoj,hall⟩:=mem_ready.1 hj;rw [ho] at hoj;injection hoj with hoj;subst hoj
   have Qjp: ∀k,listed.getD k true=false->listed.getD k false=true->False:=λk h0 h1=>by
    rcases Nat.lt_or_ge k listed.size with h'|h'
    ·simp [h'] at h0 h1;rw [h0] at h1;cases h1
    ·simp [Array.getElem?_eq_none h'] at h1
   have hnot: ∀e∈o.after,Region.binds .any e=true->e.on≠i:=λe he hb heq=>
    Qjp i (mem_ready.1 hr).1 (heq▸hall e he hb)
   have hnd:dep.getD j false=false:=by
    cases hd:dep.getD j false with
    |false=>rfl
    |true=>
     obtain ⟨_,_,o',ho',e,he,hb,h⟩:=Nh j hd;rw [ho] at ho';injection ho' with ho';subst ho';rcases h with h|h
     ·exact absurd h (hnot e he hb)
     ·exact (Qjp e.on (Nh e.on h).2.1 (hall e he hb)).elim
   have hap:=hfree j o ho hji hjun hnot
   have hset: ∀k,(listed.setIfInBounds j true).getD k true=false->listed.getD k true=false:=λk hun=>by
    by_cases hjk:j=k
    ·subst hjk;exact hjun
    ·rw [getD_set_ne true hjk] at hun;exact hun
   have hfree': ∀k ok,ops[k]?=some ok->k≠i->(listed.setIfInBounds j true).getD k true=false->
     (∀e∈ok.after,Region.binds .any e=true->e.on≠i)->oi.apart ops ok=true:=λk ok hk hki hun hno=>hfree k ok hk hki (hset k hun) hno
   have hcm:(listed.setIfInBounds i true).setIfInBounds j true=(listed.setIfInBounds j true).setIfInBounds i true:=Array.setIfInBounds_comm _ _ (λe=>hji e.symm);have hk2:=hkind j o ho hnd hji hjun;rw [if_neg hk2] at h1⊢;obtain ⟨u,hu,hK⟩:=h1;obtain ⟨a1,a2,a3⟩:=Oper.apart_spec hap;refine ⟨u,hu.of_same (execOp_put o (λcs b=>hsel j o cs b ho) a oi.dst v a1).symm (wanted_put o a oi.dst v a1).symm,?_⟩
   refine ih (listed.setIfInBounds j true) _ hfree' (λk hk=>?_) (λk ok hk h1 h2 h3=>hkind k ok hk h1 h2 (hset k h3)) (ready_mono hr (Ne.symm hji))
    (hy.of_same (execOp_put oi (λcs b=>hsel i oi cs b hi) a o.dst u a3) (wanted_put oi a o.dst u a3)) ?_
   ·obtain ⟨k1,k2,k3⟩:=Nh k hk;refine ⟨k1,?_,k3⟩;rw [getD_set_ne true (λe=>by subst e;rw [hnd] at hk;cases hk)];exact k2
   ·rw [<-hcm,<-Act.put_comm a v u a2];exact hK
def only (Q:Exit->Act->World->Prop):Exit->Act->World->Prop
 | .normal,a,w=>Q .normal a w
 |_,_,_=>False
def J1 (P:Program) (ops:Array Oper) (ks:List Nat) (S:World->Prop) (Q:Exit->Act->World->Prop):List Nat->Act->World->Prop
 |[],a,w=> ∀n,Q .normal a (w.drewN n)
 |i::rest,a,w=> ∃o,ops[i]?=some o/\
  match ks.getD i 2 with
  |0=> ∃v,YieldsIf P ops S o v a/\J1 P ops ks S Q rest (a.put o.dst v) w
  |1=> ∃v,YieldsIn P ops (Dr w) o v a/\J1 P ops ks S Q rest (a.put o.dst v) w
  |_=> ∀n,wpOp P ops (only Q) i (λa' w'=>S w'/\J1 P ops ks S Q rest a' w') a (w.drewN n)
theorem Ui (hSd: ∀w n,S w->S (w.drewN n)) (hs:Region.noSelect ops=true): ∀(ord:List Nat) (listed:Array Bool) (a:Act) (w:World),S w->
  Df ops ks ord listed=true->J1 P ops ks S Q ord a w->Hz P ops ks S (only Q) ord.length listed a w
 |[],listed,a,w,_,hB,h=>⟨by simpa [Df] using hB,h⟩
 |i::rest,listed,a,w,hS,hB,h=>by
  obtain ⟨o,ho,h⟩:=h;simp only [Df,Bool.and_eq_true] at hB;obtain ⟨⟨⟨hr,hf⟩,hk⟩,hB'⟩:=hB;have G5:i∈Region.ready .any ops listed:=by simpa using hr
  have hko:ks.getD i 2=0\/ks.getD i 2=1\/ks.getD i 2=2:=by
   split at hk
   ·rename_i h;exact .inl h
   ·rename_i h;exact .inr (.inl h)
   ·rename_i h;exact .inr (.inr h)
   ·cases hk
  rcases hko with hko|hko|hko
  ·rw [hko] at h;obtain ⟨v,hy,hK⟩:=h;exact Q0w hSd ho (by omega) (Region.noSelect_spec hs) (λ_ _ _ h=>h.elim) rest.length listed a w hS (Region.free_spec ho hf) G5 hy (Ui hSd hs rest _ _ _ hS hB' hK)
  ·rw [hko] at h hk;obtain ⟨v,hy,hK⟩:=h;simp only [Q27,List.all_eq_true,List.mem_range,Bool.and_eq_true] at hk;have hlt: ∀j oj,ops[j]?=some oj->j<ops.size:=λj oj h=>(Array.getElem?_eq_some_iff.1 h).1;refine Q7m (dep:=Xr ops i) ho (by omega) (Region.noSelect_spec hs) rest.length listed a (Region.free_spec ho hf) (λj hj=>?_) (λj oj hoj hd hne hun=>?_) G5 hy (Ui hSd hs rest _ _ _ hS hB' hK)
   ·have hjs:j<ops.size:=by
     rcases Nat.lt_or_ge j (Xr ops i).size with h'|h'
     ·have:(Xr ops i).size=ops.size:=by
       unfold Xr
       have key: ∀(l:List Nat) (acc:Array Bool) (f:Array Bool->Nat->Bool),(l.foldl (λacc j=>acc.push (f acc j)) acc).size=acc.size+l.length:=by
        intro l;induction l with
        |nil=>intro acc f;simp
        |cons x l ih=>intro acc f;simp only [List.foldl_cons,ih,Array.size_push,List.length_cons];omega
       rw [key (List.range ops.size) #[] (λacc j=>match ops[j]? with
        |some o=>o.after.any λe=>Region.binds .any e&&(e.on==i||acc.getD e.on false)
        |none=>false)]
       simp
      omega
     ·simp [Array.getElem?_eq_none h'] at hj
    have h1:=(hk j hjs).1;rw [hj] at h1;simp only [Bool.not_true,Bool.false_or,Bool.and_eq_true,bne_iff_ne,Bool.not_eq_true'] at h1;obtain ⟨⟨h1,h2⟩,h3⟩:=h1;refine ⟨h1,h2,?_⟩;split at h3
    ·rename_i oj hoj
     obtain ⟨e,he,hb⟩:=Array.any_eq_true'.1 h3;simp only [Bool.and_eq_true,Bool.or_eq_true,beq_iff_eq] at hb;exact ⟨oj,hoj,e,he,hb.1,hb.2⟩
    ·cases h3
   ·have h1:=(hk j (hlt j oj hoj)).2;rw [hd] at h1;simp only [Bool.false_or,Bool.or_eq_true,beq_iff_eq,bne_iff_ne] at h1;rcases h1 with (h1|h1)|h1
    ·exact absurd h1 hne
    ·rw [hun] at h1;cases h1
    ·exact h1
  ·rw [hko] at h hk;have hk':Region.ready .any ops listed=[i]:=by simpa using hk
   refine ⟨λh0=>(by rw [h0] at hk';cases hk'),λj hj oj hoj=>?_⟩;rw [hk'] at hj;simp only [List.mem_singleton] at hj;subst hj;rw [ho] at hoj;injection hoj with hoj;subst hoj;rw [if_pos hko];exact λn=>wpOp_mono (λa w hh=>⟨hh.1,Ui hSd hs rest _ a w hh.1 hB' hh.2⟩) (h n)
theorem Qmz {o:Oper} {a:Act} {w:World} {K:Act->World->Prop} (h:o.wp P a w K (only Q)):o.wp P a w K Q:=by
 unfold Oper.wp at*;generalize (execOp a.eval o).run P w=r at*
 cases r with
 |ok n w'=>
  cases n<;>simp only [Oper.upon] at h⊢
  case value=>exact h
  case skip=>exact h
  case defer=>exact h
  case row=>exact h
  case enter f args=>
   refine Calls.mono h λe w'' he=>?_;cases e with
   |returned v=>exact he
   |panicked c=>exact he.elim
   |outgrown=>obtain ⟨_,_,h⟩:=he;exact h.elim
 |halt x w'=>cases x<;>simp only [Oper.upon] at h⊢;exact h.elim
theorem Kl: ∀(fuel:Nat) (listed:Array Bool) (a:Act) (w:World),wpAny P .any ops (only Q) fuel listed a w->wpAny P .any ops Q fuel listed a w
 |0,_,_,_,h=>h
 |fuel+1,listed,a,w,h=>by
  refine ⟨h.1,λi hi=>?_⟩;have h2:=wpOp_mono (λa w=>Kl fuel _ a w) (h.2 i hi);unfold wpOp at*;split
  ·rename_i hn;simp only [hn] at h2;exact h2
  ·rename_i o ho
   simp only [ho] at h2;split
   ·rename_i hw
    simp only [hw,if_true] at h2;exact .inl (h2.elim Qmz λ⟨_,_,_,hh⟩=>hh.elim)
   ·rename_i hw;simp only [hw] at h2;exact h2
theorem Yq {id:Nat} {a:Act} {w:World} {l:List Oper} (S:World->Prop) (ks ord:List Nat) (hm:P.follows .mixedOrders=true) (hB:Qhp l.toArray ks ord=true)
  (hSd: ∀w n,S w->S (w.drewN n)) (hS:S w) (h:J1 P l.toArray ks S Q ord a w):(Code.region id l.toArray true).wp P Q a w:=by
 simp only [Qhp,Bool.and_eq_true,beq_iff_eq] at hB;refine wp_region_any hm (Kl _ _ _ _ ?_);have:=Ue _ (Array.replicate l.toArray.size false) a w 1 (Ui hSd hB.1.1 ord _ a _ hS hB.2 h);rw [hB.1.2] at this;exact this
theorem Q0n {id:Nat} {a:Act} {w:World} {l:List Oper} (ks ord:List Nat) (hm:P.follows .mixedOrders=true) (hB:Qhp l.toArray ks ord=true)
  (h:J1 P l.toArray ks (λ_=>True) Q ord a w):(Code.region id l.toArray true).wp P Q a w:=
 Yq (λ_=>True) ks ord hm hB (λ_ _ _=>trivial) trivial h
theorem Q6 {a:Act} {w:World} (h: ∀n,Q .normal a (w.drewN n)):J1 P ops ks S Q [] a w:=h
theorem Q8 {i:Nat} {o:Oper} {rest:List Nat} {a:Act} {w:World} (ho:ops[i]?=some o) (hk:ks.getD i 2=0) (hg:Region.wanted o (yielded ops a.tmps)=true)
  {v:Value} (hv: ∀w0:World,S w0->(execOp a.eval o).run P w0= .ok (.value v) w0) {A:Act} (hA:a.put o.dst v=A) (h:J1 P ops ks S Q rest A w):J1 P ops ks S Q (i::rest) a w:=by
 subst hA;refine ⟨o,ho,?_⟩;rw [hk];exact ⟨v, .inl ⟨hg,hv⟩,h⟩
theorem Q95 {i:Nat} {o:Oper} {rest:List Nat} {a:Act} {w:World} (ho:ops[i]?=some o) (hk:ks.getD i 2=1) (hg:Region.wanted o (yielded ops a.tmps)=true)
  {v:Value} (hv: ∀n,(execOp a.eval o).run P (w.drewN n)= .ok (.value v) (w.drewN n)) {A:Act} (hA:a.put o.dst v=A) (h:J1 P ops ks S Q rest A w):J1 P ops ks S Q (i::rest) a w:=by
 subst hA;refine ⟨o,ho,?_⟩;rw [hk];exact ⟨v, .inl ⟨hg,λw' ⟨n,hn⟩=>by subst hn;unfold Oper.quietAt;rw [hv n];exact ⟨rfl,rfl⟩⟩,h⟩
theorem Ay {i:Nat} {o:Oper} {rest:List Nat} {a:Act} {w:World} (ho:ops[i]?=some o) (hk:ks.getD i 2=1) (hg:Region.wanted o (yielded ops a.tmps)=true)
  {f:FuncId} {args:Array Value} (hv: ∀n,(execOp a.eval o).run P (w.drewN n)= .ok (.enter f args) (w.drewN n))
  {v:Value} (hc: ∀n,Calls P f args (w.drewN n) λe w'=>e= .returned v/\ ∃m,w'=(w.drewN n).drewN m) {A:Act} (hA:a.put o.dst v=A) (h:J1 P ops ks S Q rest A w):J1 P ops ks S Q (i::rest) a w:=by
 subst hA;refine ⟨o,ho,?_⟩;rw [hk];refine ⟨v, .inl ⟨hg,λw' ⟨n,hn⟩=>?_⟩,h⟩;subst hn;unfold Oper.quietAt;rw [hv n];exact ⟨rfl,(hc n).mono λe w'' ⟨he,m,hm⟩=>⟨he,n+m,by rw [hm,World.drewN_drewN]⟩⟩
theorem Q96 {i:Nat} {o:Oper} {rest:List Nat} {a:Act} {w:World} (ho:ops[i]?=some o) (hk:ks.getD i 2<2) (hg:Region.wanted o (yielded ops a.tmps)=false)
  {A:Act} (hA:a.put o.dst undef=A) (h:J1 P ops ks S Q rest A w):J1 P ops ks S Q (i::rest) a w:=by
 subst hA;refine ⟨o,ho,?_⟩;have:ks.getD i 2=0\/ks.getD i 2=1:=by omega
 rcases this with hk|hk<;>rw [hk]
 ·exact ⟨undef, .inr ⟨hg,rfl⟩,h⟩
 ·exact ⟨undef, .inr ⟨hg,rfl⟩,h⟩
theorem Q4 {i:Nat} {o:Oper} {rest:List Nat} {a:Act} {w:World} (ho:ops[i]?=some o) (hk:ks.getD i 2=2)
  (h: ∀n,wpList P ops (λe a' w'=>e= .normal/\S w'/\J1 P ops ks S Q rest a' w') [o] a (w.drewN n)):J1 P ops ks S Q (i::rest) a w:=by
 refine ⟨o,ho,?_⟩;rw [hk];intro n;unfold wpOp;simp only [ho];have h:=h n;unfold wpList at h
 have hn: ¬LetsOut (λe a' w'=>e=Exit.normal/\S w'/\J1 P ops ks S Q rest a' w'):=by
  rintro ⟨_,_,h,_⟩;cases h
 split
 ·rename_i hw
  rw [if_pos hw] at h;refine .inl ?_;rcases h with h|⟨_,h⟩
  ·unfold Oper.wp at*;generalize (execOp a.eval o).run P (w.drewN n)=r at*
   cases r with
   |ok n w'=>
    cases n<;>simp only [Oper.upon,wpList] at h⊢
    case value=>exact h.2
    case skip=>exact h.2
    case defer=>exact h.2
    case row=>exact Rows.mono h λ_ _ h=>h.2
    case enter f args=>
     refine Calls.mono h λe w'' he=>?_;cases e with
     |returned v=>exact he.2
     |panicked c=>exact absurd he.1 (by simp)
     |outgrown=>obtain ⟨_,_,h,_⟩:=he;exact absurd h (by simp)
   |halt x w'=>cases x<;>simp only [Oper.upon] at h⊢;exact absurd h.1 (by simp)
  ·exact (hn h).elim
 ·rename_i hw
  rw [if_neg hw] at h;exact h.2
end
open Go.RowKit Go.MapKept
open Go.ChangeMaps (setBlock)
instance Qun:DecidableEq ByteArray:=λa b=>
 if h:a.data=b.data then isTrue (by cases a;cases b;simp only at h;rw [h]) else isFalse λe=>h (by rw [e])
instance Qx7:LawfulBEq ByteArray where
 eq_of_beq h:=(MapKept.bytes_beq _ _).1 h
 rfl:=(MapKept.bytes_beq _ _).2 rfl
section
variable {K β:Type} [DecidableEq K]
def Qo (l:List (K×β)) (k:K):Option β:=(l.find? λp=>decide (p.1=k)).map (·.2)
def Qt (l:List (K×β)) (k:K) (v:β):List (K×β):=if k∈l.map (·.1) then l.map (λp=>if p.1=k then (k,v) else p) else l++[(k,v)]
def X3 (l:List (K×β)) (k:K):List (K×β):=l.filter λp=>decide (p.1≠k)
theorem Ya {l:List (K×β)} {k:K} (h:k∉l.map (·.1)):Qo l k=none:=by
 simp only [Qo,Option.map_eq_none_iff,List.find?_eq_none,decide_eq_true_eq];intro p hp e;exact h (List.mem_map.2 ⟨p,hp,e⟩)
theorem Xj {l:List (K×β)} {k:K} {v:β} (hn:(l.map (·.1)).Nodup) (h:(k,v)∈l):Qo l k=some v:=by
 induction l with
 |nil=>cases h
 |cons p l ih=>
  simp only [List.map_cons,List.nodup_cons] at hn;unfold Qo;by_cases hp:p.1=k
  ·simp only [List.find?_cons,hp,decide_true,Option.map_some];rcases List.mem_cons.1 h with h|h
   ·rw [<-h]
   ·exact absurd (List.mem_map.2 ⟨_,h,rfl⟩) (hp▸hn.1)
  ·rcases List.mem_cons.1 h with h|h
   ·exact absurd (by rw [<-h]) hp
   ·simp only [List.find?_cons,hp,decide_false];exact ih hn.2 h
theorem Qw {l:List (K×β)} {k:K} {v:β} (h:Qo l k=some v):(k,v)∈l:=by
 unfold Qo at h;obtain ⟨p,hp,rfl⟩:=Option.map_eq_some_iff.1 h;have h1:=List.find?_some hp;have h2:=List.mem_of_find?_eq_some hp;simp only [decide_eq_true_eq] at h1;rw [<-h1];exact h2
theorem Ba {l:List (K×β)} {k:K} {v:β} {j:Nat} {u:β} (hn:(l.map (·.1)).Nodup) (h:l[j]?=some (k,u)):Qt l k v=l.set j (k,v):=by
 have hm:k∈l.map (·.1):=List.mem_map.2 ⟨_,List.mem_of_getElem? h,rfl⟩;unfold Qt;rw [if_pos hm];apply List.ext_getElem?
 intro i;rw [List.getElem?_map,List.getElem?_set];by_cases hij:j=i
 ·subst hij;have hj:=(List.getElem?_eq_some_iff.1 h).1;rw [if_pos rfl,if_pos hj,h];simp
 ·rw [if_neg hij];cases hi:l[i]? with
  |none=>rfl
  |some p=>
   have:p.1≠k:=λe=>hij (by
    have h1:(l.map (·.1))[j]?=some k:=by simp [h]
    have h2:(l.map (·.1))[i]?=some k:=by simp [hi,e]
    have hjl:=(List.getElem?_eq_some_iff.1 h1).1;exact (List.getElem?_inj hjl hn).1 (h1.trans h2.symm))
   simp [this]
theorem B5 {l:List (K×β)} {k:K} {j:Nat} {u:β} (hn:(l.map (·.1)).Nodup) (h:l[j]?=some (k,u)):X3 l k=l.eraseIdx j:=by
 induction l generalizing j with
 |nil=>simp at h
 |cons p l ih=>
  simp only [List.map_cons,List.nodup_cons] at hn;cases j with
  |zero=>
   simp only [List.getElem?_cons_zero,Option.some.injEq] at h;subst h;simp only [X3,List.filter_cons,ne_eq,not_true_eq_false,decide_false,Bool.false_eq_true,if_false,List.eraseIdx_cons_zero];refine List.filter_eq_self.2 λq hq=>?_;simp only [decide_eq_true_eq];exact λe=>hn.1 (List.mem_map.2 ⟨q,hq,e⟩)
  |succ j=>
   simp only [List.getElem?_cons_succ] at h
   have hpk:p.1≠k:=λe=>hn.1 (by
    rw [e];exact List.mem_map.2 ⟨_,List.mem_of_getElem? h,rfl⟩)
   have:=ih hn.2 h;simp only [X3,List.filter_cons,hpk,ne_eq,not_false_eq_true,decide_true,if_true,List.eraseIdx_cons_succ] at this⊢;rw [this]
theorem Q15 {l:List (K×β)} {k:K} (h:k∉l.map (·.1)):X3 l k=l:=
 List.filter_eq_self.2 λp hp=>by
  simp only [decide_eq_true_eq];exact λe=>h (List.mem_map.2 ⟨p,hp,e⟩)
omit [DecidableEq K] in
theorem Gp {γ:Type} (f:β->γ) (l:List (K×β)):(l.map λp=>(p.1,f p.2)).map (·.1)=l.map (·.1):=by simp [List.map_map,Function.comp_def]
theorem Gh {γ:Type} (f:β->γ) (l:List (K×β)) (k:K):Qo (l.map λp=>(p.1,f p.2)) k=(Qo l k).map f:=by
 induction l with
 |nil=>rfl
 |cons p l ih=>
  unfold Qo at ih⊢;by_cases hp:p.1=k
  ·simp [hp]
  ·simpa [List.find?_cons,hp] using ih
theorem D8 {γ:Type} (f:β->γ) (l:List (K×β)) (k:K) (v:β):(Qt l k v).map (λp=>(p.1,f p.2))=Qt (l.map λp=>(p.1,f p.2)) k (f v):=by
 unfold Qt;rw [Gp];split
 ·simp only [List.map_map];apply List.map_congr_left
  intro p _;simp only [Function.comp_def];split<;>rfl
 ·simp
theorem I2 {γ:Type} (f:β->γ) (l:List (K×β)) (k:K):(X3 l k).map (λp=>(p.1,f p.2))=X3 (l.map λp=>(p.1,f p.2)) k:=by
 unfold X3;rw [List.filter_map];rfl
theorem Zw {l:List (K×β)} {k:K}:Qo l k=none↔k∉l.map (·.1):=by
 constructor
 ·intro h hm;obtain ⟨p,hp,he⟩:=List.mem_map.1 hm;simp only [Qo,Option.map_eq_none_iff,List.find?_eq_none,decide_eq_true_eq] at h;exact h p hp he
 ·exact Ya
theorem V3 {l:List (K×β)} {k:K} {v:β} (h:Qo l k=some v): ∃l1 l2,l=l1++(k,v)::l2/\k∉l1.map (·.1):=by
 induction l with
 |nil=>simp [Qo] at h
 |cons p l ih=>
  by_cases hp:p.1=k
  ·refine ⟨[],l,?_,by simp⟩;simp only [Qo,List.find?_cons,hp,decide_true,Option.map_some,Option.some.injEq] at h;rw [List.nil_append,<-h,<-hp]
  ·have h':Qo l k=some v:=by simpa [Qo,List.find?_cons,hp] using h
   obtain ⟨l1,l2,rfl,hn⟩:=ih h';refine ⟨p::l1,l2,rfl,?_⟩;simp only [List.map_cons,List.mem_cons,not_or];exact ⟨λe=>hp e.symm,hn⟩
theorem Xb {l1 l2:List (K×β)} {k:K} {u v:β} (hn:((l1++(k,u)::l2).map (·.1)).Nodup):Qt (l1++(k,u)::l2) k v=l1++(k,v)::l2:=by
 rw [Ba (j:=l1.length) (u:=u) hn (by simp)];simp
theorem Oa {l:List (K×β)} {k:K} {v:β} (h:k∉l.map (·.1)):Qt l k v=l++[(k,v)]:=by unfold Qt;rw [if_neg h]
end
section
variable {K:Type}
def Vi (kv:K->Value) (w:World) (m:Nat) (l:List (K×Value)):Prop:=
 ∃es clock,w.heap[m]?=some (.map es clock)/\Stamped es clock/\es.toList.map (λe=>(e.key,e.val))=l.map (λp=>(kv p.1,p.2))
section
variable {kv:K->Value} {w w':World} {m:Nat} {l:List (K×Value)}
theorem Vi.of_heap (h:Vi kv w m l) (hh:w'.heap[m]?=w.heap[m]?):Vi kv w' m l:=by
 obtain ⟨es,clock,h1,h2⟩:=h;exact ⟨es,clock,hh.trans h1,h2⟩
theorem Vi.lt (h:Vi kv w m l):m<w.heap.size:=by
 obtain ⟨es,clock,h1,h2⟩:=h;exact (Array.getElem?_eq_some_iff.1 h1).1
theorem Vi.nodup (h:Vi kv w m l):(l.map (·.1)).Nodup:=by
 obtain ⟨es,clock,_,⟨_,_,h3⟩,h4⟩:=h
 have:es.toList.map (·.key)=(l.map (·.1)).map kv:=by
  have:=congrArg (List.map (·.1)) h4;simpa [List.map_map,Function.comp_def] using this
 rw [this] at h3;exact (List.pairwise_map.1 h3).imp λhne e=>hne (congrArg _ e)
theorem Vi.made (kv:K->Value) (w:World):Vi kv (w.alloc (.map #[] 0)) w.heap.size []:=⟨#[],0,(heap_alloc w _).1,stamped_empty 0,rfl⟩
end
section
variable {P:Program} {kv:K->Value} {w:World} {m:Nat} {l:List (K×Value)} {t kt et:TypeId} {d:TypeDesc}
theorem Q28 (hkv: ∀k,IsKey d (kv k)) (hinj: ∀a b,kv a=kv b->a=b) {es:Array MapEntry} (hp:es.toList.map (λe=>(e.key,e.val))=l.map (λp=>(kv p.1,p.2))) (k:K):
  (Instr.findNow d (kv k) es.toList 0=some none/\k∉l.map (·.1)/\ ∀x∈es.toList,x.key≠kv k)\/ ∃j e,Instr.findNow d (kv k) es.toList 0=some (some (j,e.val))/\es.toList[j]?=some e/\e.key=kv k/\l[j]?=some (k,e.val):=by
 have hkeys: ∀x∈es.toList,IsKey d x.key:=λx hx=>by
  have:(x.key,x.val)∈l.map (λp=>(kv p.1,p.2)):=hp▸List.mem_map.2 ⟨x,hx,rfl⟩;obtain ⟨p,_,he⟩:=List.mem_map.1 this;injection he with he _;rw [<-he];exact hkv _
 rcases findNow_spec (hkv k) es.toList 0 hkeys with ⟨h1,h2⟩|⟨j,e,h1,h2,h3⟩
 ·refine .inl ⟨h1,λhm=>?_,h2⟩;obtain ⟨p,hpl,hpk⟩:=List.mem_map.1 hm;have:(kv p.1,p.2)∈es.toList.map (λe=>(e.key,e.val)):=hp▸List.mem_map.2 ⟨p,hpl,rfl⟩;obtain ⟨x,hx,he⟩:=List.mem_map.1 this;injection he with he _;exact h2 x hx (by rw [he,hpk])
 ·refine .inr ⟨j,e,by simpa using h1,h2,h3,?_⟩;have h5:(es.toList.map (λe=>(e.key,e.val)))[j]?=some (e.key,e.val):=by simp [h2]
  rw [hp,List.getElem?_map] at h5;obtain ⟨p,Qoc,he⟩:=Option.map_eq_some_iff.1 h5;injection he with he1 he2;rw [Qoc];have:p.1=k:=hinj _ _ (he1.trans h3);rw [<-this,<-he2]
end
section
variable [DecidableEq K]
variable {P:Program} {kv:K->Value} {w:World} {m:Nat} {l:List (K×Value)} {t kt et:TypeId} {d:TypeDesc}
theorem Mx (ht:P.underlying t=some (.map kt et)) (hk:P.underlying kt=some d) (hkv: ∀k,IsKey d (kv k)) (hinj: ∀a b,kv a=kv b->a=b)
  {z:Value} (hz: ∀w:World,(zeroValue et).run P w= .ok z w) (h:Vi kv w m l) (k:K):
  (Instr.lookup t (.map (some m)) (kv k) false).run P w= .ok ((Qo l k).getD z) w/\
  (Instr.lookup t (.map (some m)) (kv k) true).run P w= .ok (.tuple #[(Qo l k).getD z, .bool (Qo l k).isSome]) w:=by
 obtain ⟨es,clock,hm,hs,hp⟩:=id h;rcases Q28 hkv hinj hp k with ⟨h1,h2,_⟩|⟨j,e,h1,h2,h3,h4⟩
 ·rw [Ya h2];constructor<;>simp [Instr.lookup,run_underlying ht,MapKept.run_getObj_map hm,run_checkKey hk (hkv k),run_findKey hk h1,hz,Result.andThen]
 ·rw [Xj h.nodup (List.mem_of_getElem? h4)];constructor<;>simp [Instr.lookup,run_underlying ht,MapKept.run_getObj_map hm,run_checkKey hk (hkv k),run_findKey hk h1,Result.andThen]
end
section
variable {P:Program} {kv:K->Value} {w:World} {m:Nat} {l:List (K×Value)} {t kt et:TypeId} {d:TypeDesc}
end
section
variable [DecidableEq K]
variable {P:Program} {kv:K->Value} {w:World} {m:Nat} {l:List (K×Value)} {t kt et:TypeId} {d:TypeDesc}
theorem My (ht:P.underlying t=some (.map kt et)) (hk:P.underlying kt=some d) (hkv: ∀k,IsKey d (kv k)) (hinj: ∀a b,kv a=kv b->a=b)
  (h:Vi kv w m l) (k:K) (v:Value):
  ∃o,(Instr.mapUpdate t (.map (some m)) (kv k) v).run P w= .ok () (setBlock w m o)/\ ∀w',w'.heap[m]?=some o->Vi kv w' m (Qt l k v):=by
 obtain ⟨es,clock,hm,hs,hp⟩:=id h;rcases Q28 hkv hinj hp k with ⟨h1,h2,h3⟩|⟨j,e,h1,h2,h3,h4⟩
 ·refine ⟨.map (es.push {key:=kv k,val:=v,born:=clock}) (clock+1),?_,λw' hw'=>⟨_,_,hw',stamped_push hs h3,?_⟩⟩
  ·simp [Instr.mapUpdate,run_underlying ht,MapKept.run_getObj_map hm,run_checkKey hk (hkv k),run_findKey hk h1,MapKept.run_setObj_map _ hm,Result.andThen,setBlock]
  ·unfold Qt;rw [if_neg h2];simp [hp]
 ·have hj:es[j]?=some e:=by simpa using h2
  refine ⟨.map (es.modify j λe=>{e with key:=kv k,val:=v}) clock,?_,λw' hw'=>⟨_,_,hw',stamped_modify hs j _ (λ_ _=>rfl) (λe' _ he'=>by rw [hj] at he';cases he';exact h3.symm),?_⟩⟩
  ·simp [Instr.mapUpdate,run_underlying ht,MapKept.run_getObj_map hm,run_checkKey hk (hkv k),run_findKey hk h1,hj,h3,run_keyThatStays (hkv k),MapKept.run_setObj_map _ hm,Result.andThen,setBlock]
  ·rw [Ba h.nodup h4,List.map_set,<-hp,Array.toList_modify];apply List.ext_getElem?
   intro i;simp only [List.getElem?_map,List.getElem?_modify,List.getElem?_set,List.length_map];have hjl:=(List.getElem?_eq_some_iff.1 h2).1;by_cases hij:j=i
   ·subst hij;have hjs:j<es.size:=by simpa using hjl
    simp [hjs]
   ·simp [hij]
end
section
variable {P:Program} {kv:K->Value} {w:World} {m:Nat} {l:List (K×Value)} {t kt et:TypeId} {d:TypeDesc}
theorem Qcm {ty:TypeId} (ht:P.underlying t=some (.map kt et)) (h:Vi kv w m l):(Builtin.len_ #[t] ty #[.map (some m)]).run P w= .ok (.int .i64 (l.length:Int)) w:=by
 obtain ⟨es,clock,hm,hs,hp⟩:=h
 have:es.size=l.length:=by
  have:=congrArg List.length hp;simpa using this
 simp [Builtin.len_,run_underlying ht,MapKept.run_getObj_map hm,Result.andThen,goInt,this]
def Xv (kv:K->Value) (w:World) (r m:Nat) (l:List (K×Value)) (V:List K):Prop:=
 ∃es clock since seen c0,w.heap[r]?=some (.mapIter (some m) since seen c0)/\w.heap[m]?=some (.map es clock)/\Stamped es clock/\
  es.toList.map (λe=>(e.key,e.val))=l.map (λp=>(kv p.1,p.2))/\(∀x∈es.toList,x.born<since)/\since<=c0/\since<=clock/\
  ∀(i:Nat) (e:MapEntry) (p:K×Value),es.toList[i]?=some e->l[i]?=some p->(seen.contains e.born=true↔p.1∈V)
theorem Xv.map {r:Nat} {V:List K} (h:Xv kv w r m l V):Vi kv w m l:=by
 obtain ⟨es,clock,since,seen,c0,h1,h2,h3,h4,_⟩:=h;exact ⟨es,clock,h2,h3,h4⟩
theorem Xv.of_heap {r:Nat} {V:List K} {w':World} (h:Xv kv w r m l V) (hr:w'.heap[r]?=w.heap[r]?) (hm:w'.heap[m]?=w.heap[m]?):Xv kv w' r m l V:=by
 obtain ⟨es,clock,since,seen,c0,h1,h2,h3⟩:=h;exact ⟨es,clock,since,seen,c0,hr.trans h1,hm.trans h2,h3⟩
theorem Xv.lt {r:Nat} {V:List K} (h:Xv kv w r m l V):r<w.heap.size:=by
 obtain ⟨es,clock,since,seen,c0,h1,_⟩:=h;exact (Array.getElem?_eq_some_iff.1 h1).1
theorem Xv.ne {r:Nat} {V:List K} (h:Xv kv w r m l V):r≠m:=by
 obtain ⟨es,clock,since,seen,c0,h1,h2,_⟩:=h;rintro rfl;rw [h1] at h2;cases h2
theorem Xv.Qhj {r g:Nat} {V:List K} (h:Xv kv w r m l V) {cs:Array Value} {t:TypeId} {f:Nat×Nat} (hg:w.heap[g]?=some (.cells cs t f)):r≠g:=by
 obtain ⟨es,clock,since,seen,c0,h1,h2,_⟩:=h;rintro rfl;rw [h1] at hg;cases hg
theorem Hp (ht:P.underlying t=some (.map kt et)) (h:Vi kv w m l):
  ∃o,(Instr.range t (.map (some m))).run P w= .ok (.pointer (some ⟨w.heap.size,0,none⟩)) (w.alloc o)/\Xv kv (w.alloc o) w.heap.size m l []:=by
 obtain ⟨es,clock,hm,hs,hp⟩:=h;refine ⟨_,run_range_map w t kt et m es clock ht hm,es,clock,clock, #[],clock,(heap_alloc w _).1,((heap_alloc w _).2 m (Array.getElem?_eq_some_iff.1 hm).1).trans hm,hs,hp,hs.1,Nat.le_refl _,Nat.le_refl _,?_⟩;intro i e p _ _;simp
theorem Ae {r:Nat} {V:List K} (ty:TypeId) (h:Xv kv w r m l V):
  ((∀p∈l,p.1∈V)/\(Instr.next (.pointer (some ⟨r,0,none⟩)) false ty).run P w= .ok (.tuple #[.bool false]) w)\/
  ∃p∈l,p.1∉V/\ ∃(n:Nat) (o:Obj),(Instr.next (.pointer (some ⟨r,0,none⟩)) false ty).run P w= .ok (.tuple #[.bool true,kv p.1,p.2]) (setBlock (w.drewN n) r o)/\
   Xv kv (setBlock (w.drewN n) r o) r m l (p.1::V)/\ ∀w',w'.heap[r]?=some o->w'.heap[m]?=w.heap[m]?->(Instr.entry (.pointer (some ⟨r,0,none⟩))).run P w'= .ok (.tuple #[kv p.1,p.2]) w':=by
 have hnd:=h.map.nodup;have hne:=h.ne;obtain ⟨es,clock,since,seen,c0,hr,hm,hs,hp,hold,hsc,hsk,hV⟩:=h;have hlen:es.toList.length=l.length:=by have:=congrArg List.length hp;simpa using this
 rcases run_next_at (P:=P) w ty r m since c0 seen es clock hr hm hold hsc with ⟨h0,hrun⟩|⟨e,he,w1,hw1,hrun⟩
 ·refine .inl ⟨λp hpl=>?_,hrun⟩;obtain ⟨i,hi⟩:=List.getElem?_of_mem hpl;have hil:=(List.getElem?_eq_some_iff.1 hi).1;have hie:es.toList[i]?=some es.toList[i]:=List.getElem?_eq_getElem (by omega);refine (hV i _ p hie hi).1 ?_;have hL:leftOf es seen= #[]:=Array.eq_empty_of_size_eq_zero h0;unfold leftOf at hL;rw [Array.filter_eq_empty_iff] at hL;have:=hL es.toList[i] (by simp);simpa using this
 ·have hmem:e∈es.toList/\seen.contains e.born=false:=by
   unfold leftOf at he;simp only [Array.toList_filter,List.mem_filter] at he;exact ⟨he.1,by simpa using he.2⟩
  obtain ⟨i,hi⟩:=List.getElem?_of_mem hmem.1;have hil:=(List.getElem?_eq_some_iff.1 hi).1;have hpi:l[i]?=some l[i]:=List.getElem?_eq_getElem (by omega)
  have hpe:(e.key,e.val)=(kv l[i].1,l[i].2):=by
   have h5:(es.toList.map (λe=>(e.key,e.val)))[i]?=some (e.key,e.val):=by simp [hi]
   rw [hp,List.getElem?_map,hpi] at h5;simpa using h5.symm
  injection hpe with Qwg Qwh
  have hnot:l[i].1∉V:=λhm'=>by
   have:=(hV i e _ hi hpi).2 hm';rw [hmem.2] at this;cases this
  obtain ⟨n,hn⟩: ∃n,w1=w.drewN n:=by
   rcases hw1 with rfl|rfl
   ·exact ⟨0,rfl⟩
   ·exact ⟨1,rfl⟩
  subst hn;refine .inr ⟨l[i],List.mem_of_getElem? hpi,hnot,n, .mapIter (some m) since (seen.push e.born) clock,by rw [<-Qwg,<-Qwh];exact hrun,?_,λw' hr' hm'=>?_⟩
  ·have hrl:r<(w.drewN n).heap.size:=(Array.getElem?_eq_some_iff.1 hr).1;refine ⟨es,clock,since,seen.push e.born,clock,(by show ((w.drewN n).heap.setIfInBounds r _)[r]?=_;rw [Array.getElem?_setIfInBounds_self,if_pos hrl]),?_,hs,hp,hold,?_,?_,?_⟩
   ·show ((w.drewN n).heap.setIfInBounds r _)[m]?=_
    rw [Array.getElem?_setIfInBounds_ne hne];exact hm
   ·exact hsk
   ·exact hsk
   ·intro j e' p' hj Qoc
    have Qwt:(seen.push e.born).contains e'.born=true↔e'.born=e.born\/seen.contains e'.born=true:=by
     simp only [Array.contains_push,Bool.or_eq_true,beq_iff_eq];exact Or.comm
    rw [Qwt,hV j e' p' hj Qoc,List.mem_cons]
    have hborn:e'.born=e.born↔p'.1=l[i].1:=by
     constructor
     ·intro hb;have h1:(es.toList.map (·.born))[j]?=some e.born:=by simp [hj,hb]
      have h2:(es.toList.map (·.born))[i]?=some e.born:=by simp [hi]
      have hji:=(List.getElem?_inj (List.getElem?_eq_some_iff.1 h1).1 hs.2.1).1 (h1.trans h2.symm);subst hji;rw [hpi] at Qoc;injection Qoc with Qoc;rw [Qoc]
     ·intro hb;have h1:(l.map (·.1))[j]?=some l[i].1:=by simp [Qoc,hb]
      have h2:(l.map (·.1))[i]?=some l[i].1:=by simp [hpi]
      have hji:=(List.getElem?_inj (List.getElem?_eq_some_iff.1 h1).1 hnd).1 (h1.trans h2.symm);subst hji;rw [hi] at hj;injection hj with hj;rw [hj]
    rw [hborn]
  ·have:=run_entry_at (P:=P) w' r m since seen es clock e hr' (hm'.trans hm) hmem.1 hs.2.1;rw [<-Qwg,<-Qwh];exact this
end
end
theorem wrap_small {k:IntKind} (hk:k.signed=false) {a:Nat} (ha:a<2^k.bits):k.wrap (a:Int)=(a:Int):=by
 have e:(2^k.bits:Int)=((2^k.bits:Nat):Int):=by simp
 unfold IntKind.wrap;rw [hk,e];simp only [Bool.false_and,Bool.false_eq_true,if_false];exact Int.emod_eq_of_lt (by omega) (by omega)
theorem Gg {n a:Nat} (ha:a<2^n):(BitVec.ofInt n (a:Int)).toNat=a:=by
 rw [BitVec.ofInt_natCast,BitVec.toNat_ofNat,Nat.mod_eq_of_lt ha]
theorem Gf {k:IntKind} (hk:k.signed=false) {a b:Nat} (ha:a<2^k.bits) (hb:b<2^k.bits):bits .xor k (a:Int) (b:Int)=((a^^^b:Nat):Int):=by
 have h:a^^^b<2^k.bits:=Nat.xor_lt_two_pow ha hb;simp only [bits,BitVec.toNat_xor,Gg ha,Gg hb];exact wrap_small hk h
theorem Q9o {k:IntKind} (hk:k.signed=false) {a b:Nat} (ha:a<2^k.bits) (hb:b<2^k.bits):bits .or k (a:Int) (b:Int)=((a|||b:Nat):Int):=by
 have h:a|||b<2^k.bits:=Nat.or_lt_two_pow ha hb;simp only [bits,BitVec.toNat_or,Gg ha,Gg hb];exact wrap_small hk h
theorem Cu {k:IntKind} (hk:k.signed=false) {a b:Nat} (ha:a<2^k.bits) (hb:b<2^k.bits):bits .and k (a:Int) (b:Int)=((a&&&b:Nat):Int):=by
 have h:a&&&b<2^k.bits:=Nat.and_lt_two_pow a hb;simp only [bits,BitVec.toNat_and,Gg ha,Gg hb];exact wrap_small hk h
def U0 (c:Nat):Nat:=if c % 2=1 then (c/2)^^^3988292384 else c/2
def K0:Nat->Nat->Nat
 |0,c=>c
 |n+1,c=>K0 n (U0 c)
def Q24 (c:Nat) (b:UInt8):Nat:=K0 8 (c^^^b.toNat)
def Ux (c:Nat) (l:List UInt8):Nat:=l.foldl Q24 c
def crc (l:List UInt8):Nat:=Ux 4294967295 l^^^4294967295
theorem I1 {c:Nat} (h:c<4294967296):U0 c<4294967296:=by
 unfold U0;split
 ·exact Nat.xor_lt_two_pow (n:=32) (by omega) (by decide)
 ·omega
theorem Q7s (n:Nat): ∀{c:Nat},c<4294967296->K0 n c<4294967296:=by
 induction n with
 |zero=>intro c h;exact h
 |succ n ih=>intro c h;exact ih (I1 h)
theorem K6 (n c:Nat):K0 (n+1) c=U0 (K0 n c):=by
 induction n generalizing c with
 |zero=>rfl
 |succ n ih=>exact ih (U0 c)
theorem Qix {c:Nat} (h:c<4294967296) (b:UInt8):c^^^b.toNat<4294967296:=
 Nat.xor_lt_two_pow (n:=32) h (by have:=b.toNat_lt;omega)
theorem Q7t {c:Nat} (h:c<4294967296) (b:UInt8):Q24 c b<4294967296:=Q7s 8 (Qix h b)
theorem Qbm (l:List UInt8): ∀{c:Nat},c<4294967296->Ux c l<4294967296:=by
 induction l with
 |nil=>intro c h;exact h
 |cons b l ih=>intro c h;exact ih (Q7t h b)
theorem Q25 (l:List UInt8):crc l<4294967296:=Nat.xor_lt_two_pow (n:=32) (Qbm l (by decide)) (by decide)
theorem Iy (c:Nat) (l:List UInt8) (b:UInt8):Ux c (l++[b])=Q24 (Ux c l) b:=by simp [Ux]
theorem Q0g (c:Nat) (l k:List UInt8):Ux c (l++k)=Ux (Ux c l) k:=by simp [Ux]
def pk (m c:Int):Nat:=m.toNat*65536+c.toNat
def Jp (m c:Int):Bool:=decide (0<=m)&&decide (m<=281474976710655)&&decide (0<=c)&&decide (c<=65535)
theorem Zh {m c:Int}:Jp m c=true↔0<=m/\m<=281474976710655/\0<=c/\c<=65535:=by simp [Jp,and_assoc]
def Q44 (ops:Array Oper) (z i:Nat):Prop:= ∀o,ops[z]?=some o-> ∃e∈o.after,Region.binds .any e=true/\e.on=i
def Q92 (ops:Array Oper) (z i:Nat):Bool:=match ops[z]? with
 |some o=>o.after.any λe=>Region.binds .any e&&e.on==i
 |none=>true
theorem Q6k {ops:Array Oper} {z i:Nat} (h:Q92 ops z i=true):Q44 ops z i:=λo ho=>by
 unfold Q92 at h;rw [ho] at h;obtain ⟨e,he,hb⟩:=Array.any_eq_true'.1 h;simp only [Bool.and_eq_true,beq_iff_eq] at hb;exact ⟨e,he,hb.1,hb.2⟩
theorem Q1k (f:Array Bool->Nat->Bool): ∀(l:List Nat) (acc:Array Bool),(l.foldl (λacc j=>acc.push (f acc j)) acc).size=acc.size+l.length
 |[],acc=>by simp
 |x::l,acc=>by
  rw [List.foldl_cons,Q1k f l,Array.size_push,List.length_cons];omega
theorem Iz (ops:Array Oper) (i:Nat):(Xr ops i).size=ops.size:=by
 have h:=Q1k (λacc j=>match ops[j]? with
  |some o=>o.after.any λe=>Region.binds .any e&&(e.on==i||acc.getD e.on false)
  |none=>false) (List.range ops.size) #[]
 simp only [List.length_range,List.size_toArray,List.length_nil,Nat.zero_add] at h;exact h
section
variable {P:Program} {ops:Array Oper} {Q:Exit->Act->World->Prop} {S:World->Prop} {ks:List Nat} {z:Nat}
def Cr (P:Program) (ops:Array Oper) (ks:List Nat) (z:Nat) (S:World->Prop) (Q:Exit->Act->World->Prop):Nat->Array Bool->Act->World->Prop
 |0,listed,a,w=>Region.ready .any ops listed=[]/\ ∀n,Q .normal a (w.drewN n)
 |fuel+1,listed,a,w=>
  (Region.ready .any ops listed=[]-> ∀n,Q .normal a (w.drewN n))/\
  ∀i∈Region.ready .any ops listed,∀o,ops[i]?=some o->
   if ks.getD i 2=2 then ∀n,wpOp P ops Q i (λa' w'=>(i=z\/S w')/\Cr P ops ks z S Q fuel (listed.setIfInBounds i true) a' w') a (w.drewN n)
   else ∃v,YieldsIn P ops (Dr w) o v a/\Cr P ops ks z S Q fuel (listed.setIfInBounds i true) (a.put o.dst v) w
theorem G9: ∀(fuel:Nat) (listed:Array Bool) (a:Act) (w:World) (n:Nat),Cr P ops ks z S Q fuel listed a w->wpAny P .any ops Q fuel listed a (w.drewN n)
 |0,_,_,_,n,h=>⟨h.1,h.2 n⟩
 |fuel+1,listed,a,w,n,h=>by
  refine ⟨λh0=>h.1 h0 n,λi hi=>?_⟩;obtain ⟨_,o,ho,_⟩:=mem_ready.1 hi;have h2:=h.2 i hi o ho;split at h2
  ·exact wpOp_mono (λa w hh=>G9 fuel _ a w 0 hh.2) (h2 n)
  ·obtain ⟨v,hy,hk⟩:=h2;exact wpOp_of_qOp (C:=Dr w) (K:=λa=>Cr P ops ks z S Q fuel (listed.setIfInBounds i true) a w) ⟨n,rfl⟩ (λa' w' ⟨m,hw'⟩ hh=>by subst hw';exact G9 fuel _ a' w m hh) (hy.qOp ho hk)
theorem Qbc {i:Nat} {oi:Oper} {v:Value} (hz:Q44 ops z i) (hSd: ∀w n,S w->S (w.drewN n)) (hi:ops[i]?=some oi) (hki:ks.getD i 2≠2) (hsel: ∀(j:Nat) (o:Oper) cs b,ops[j]?=some o->o.op≠ .select cs b)
  (hQ: ∀c a w,Q (.panic c) (a.put oi.dst v) w->Q (.panic c) a w):
  ∀(fuel:Nat) (listed:Array Bool) (a:Act) (w:World),S w->
   (∀j oj,ops[j]?=some oj->j≠i->listed.getD j true=false->(∀e∈oj.after,Region.binds .any e=true->e.on≠i)->oi.apart ops oj=true)->
   i∈Region.ready .any ops listed->YieldsIf P ops S oi v a->
   Cr P ops ks z S Q fuel (listed.setIfInBounds i true) (a.put oi.dst v) w->Cr P ops ks z S Q (fuel+1) listed a w:=by
 intro fuel;induction fuel with
 |zero=>
  intro listed a w hS _ hr hy H;refine ⟨λh=>(by rw [h] at hr;cases hr),λj hj o ho=>?_⟩;by_cases hji:j=i
  ·subst hji;rw [hi] at ho;injection ho with ho;subst ho;rw [if_neg hki];exact ⟨v,Z4 (λn=>hSd w n hS) hy,H⟩
  ·have:=ready_mono hj hji;rw [H.1] at this;cases this
 |succ fuel ih=>
  intro listed a w hS hfree hr hy H;refine ⟨λh=>(by rw [h] at hr;cases hr),λj hj o ho=>?_⟩;by_cases hji:j=i
  ·subst hji;rw [hi] at ho;injection ho with ho;subst ho;rw [if_neg hki];exact ⟨v,Z4 (λn=>hSd w n hS) hy,H⟩
  ·have h1:=H.2 j (ready_mono hj hji) o ho;obtain ⟨hjun,oj,hoj,hall⟩:=mem_ready.1 hj;rw [ho] at hoj;injection hoj with hoj;subst hoj
   have hnot: ∀e∈o.after,Region.binds .any e=true->e.on≠i:=λe he hb heq=>by
    have h1:=hall e he hb;have h0:=(mem_ready.1 hr).1;rw [heq] at h1;rcases Nat.lt_or_ge i listed.size with h'|h'
    ·simp [h'] at h0 h1;rw [h0] at h1;cases h1
    ·simp [Array.getElem?_eq_none h'] at h1
   have hjz:j≠z:=λe=>by
    subst e;obtain ⟨e,he,hb,hon⟩:=hz o ho;exact hnot e he hb hon
   have hap:=hfree j o ho hji hjun hnot
   have hfree': ∀k ok,ops[k]?=some ok->k≠i->(listed.setIfInBounds j true).getD k true=false->
     (∀e∈ok.after,Region.binds .any e=true->e.on≠i)->oi.apart ops ok=true:=λk ok hk hki hun hno=>by
    refine hfree k ok hk hki ?_ hno;by_cases hjk:j=k
    ·subst hjk;exact hjun
    ·rw [getD_set_ne true hjk] at hun;exact hun
   have hcm:(listed.setIfInBounds i true).setIfInBounds j true=(listed.setIfInBounds j true).setIfInBounds i true:=Array.setIfInBounds_comm _ _ (λe=>hji e.symm);by_cases hk2:ks.getD j 2=2
   ·rw [if_pos hk2] at h1⊢;intro n;have h2:=wpOp_putIf ho hap (λcs b=>hsel i oi cs b hi) (λcs b=>hsel j o cs b ho) hQ hy (h1 n);refine wpOp_mono (λa' w' h3=>⟨h3.2.1,ih (listed.setIfInBounds j true) a' w' (h3.2.1.resolve_left hjz) hfree' (ready_mono hr (Ne.symm hji)) h3.1 ?_⟩) h2;rw [<-hcm];exact h3.2.2
   ·rw [if_neg hk2] at h1⊢;obtain ⟨u,hu,hK⟩:=h1;obtain ⟨a1,a2,a3⟩:=Oper.apart_spec hap;refine ⟨u,hu.of_same (execOp_put o (λcs b=>hsel j o cs b ho) a oi.dst v a1).symm (wanted_put o a oi.dst v a1).symm,?_⟩
    refine ih (listed.setIfInBounds j true) _ w hS hfree' (ready_mono hr (Ne.symm hji))
     (hy.of_same (execOp_put oi (λcs b=>hsel i oi cs b hi) a o.dst u a3) (wanted_put oi a o.dst u a3)) ?_
    rw [<-hcm,<-Act.put_comm a v u a2];exact hK
theorem Q7n {i:Nat} {oi:Oper} {v:Value} {dep:Array Bool} (hz:dep.getD z false=true) (hSd: ∀w n,S w->S (w.drewN n)) (hi:ops[i]?=some oi) (hki:ks.getD i 2≠2) (hsel: ∀(j:Nat) (o:Oper) cs b,ops[j]?=some o->o.op≠ .select cs b)
  (hQ: ∀c a w,Q (.panic c) (a.put oi.dst v) w->Q (.panic c) a w):
  ∀(fuel:Nat) (listed:Array Bool) (a:Act) (w:World),S w->
   (∀j oj,ops[j]?=some oj->j≠i->listed.getD j true=false->(∀e∈oj.after,Region.binds .any e=true->e.on≠i)->oi.apart ops oj=true)->
   (∀j,dep.getD j false=true->j≠i/\listed.getD j true=false/\ ∃o,ops[j]?=some o/\ ∃e∈o.after,Region.binds .any e=true/\(e.on=i\/dep.getD e.on false=true))->
   i∈Region.ready .any ops listed->YieldsIf P ops S oi v a->
   Cr P ops ks z S Q fuel (listed.setIfInBounds i true) (a.put oi.dst v) w->Cr P ops ks z S Q (fuel+1) listed a w:=by
 intro fuel;induction fuel with
 |zero=>
  intro listed a w hS _ _ hr hy H;refine ⟨λh=>(by rw [h] at hr;cases hr),λj hj o ho=>?_⟩;by_cases hji:j=i
  ·subst hji;rw [hi] at ho;injection ho with ho;subst ho;rw [if_neg hki];exact ⟨v,Z4 (λn=>hSd w n hS) hy,H⟩
  ·have:=ready_mono hj hji;rw [H.1] at this;cases this
 |succ fuel ih=>
  intro listed a w hS hfree Nh hr hy H;refine ⟨λh=>(by rw [h] at hr;cases hr),λj hj o ho=>?_⟩;by_cases hji:j=i
  ·subst hji;rw [hi] at ho;injection ho with ho;subst ho;rw [if_neg hki];exact ⟨v,Z4 (λn=>hSd w n hS) hy,H⟩
  ·have h1:=H.2 j (ready_mono hj hji) o ho;obtain ⟨hjun,oj,hoj,hall⟩:=mem_ready.1 hj;rw [ho] at hoj;injection hoj with hoj;subst hoj
   have hnot: ∀e∈o.after,Region.binds .any e=true->e.on≠i:=λe he hb heq=>by
    have h1:=hall e he hb;have h0:=(mem_ready.1 hr).1;rw [heq] at h1;rcases Nat.lt_or_ge i listed.size with h'|h'
    ·simp [h'] at h0 h1;rw [h0] at h1;cases h1
    ·simp [Array.getElem?_eq_none h'] at h1
   have Qjp: ∀k,listed.getD k true=false->listed.getD k false=true->False:=λk h0 h1=>by
    rcases Nat.lt_or_ge k listed.size with h'|h'
    ·simp [h'] at h0 h1;rw [h0] at h1;cases h1
    ·simp [Array.getElem?_eq_none h'] at h1
   have hnd:dep.getD j false=false:=by
    cases hd:dep.getD j false with
    |false=>rfl
    |true=>
     obtain ⟨_,_,o',ho',e,he,hb,h⟩:=Nh j hd;rw [ho] at ho';injection ho' with ho';subst ho';rcases h with h|h
     ·exact absurd h (hnot e he hb)
     ·exact (Qjp e.on (Nh e.on h).2.1 (hall e he hb)).elim
   have hjz:j≠z:=λe=>by
    subst e;rw [hz] at hnd;cases hnd
   have Qa5: ∀k,dep.getD k false=true->k≠i/\(listed.setIfInBounds j true).getD k true=false/\ ∃o,ops[k]?=some o/\ ∃e∈o.after,Region.binds .any e=true/\(e.on=i\/dep.getD e.on false=true):=λk hk=>by
    obtain ⟨k1,k2,k3⟩:=Nh k hk;refine ⟨k1,?_,k3⟩;rw [getD_set_ne true (λe=>by subst e;rw [hnd] at hk;cases hk)];exact k2
   have hap:=hfree j o ho hji hjun hnot
   have hfree': ∀k ok,ops[k]?=some ok->k≠i->(listed.setIfInBounds j true).getD k true=false->
     (∀e∈ok.after,Region.binds .any e=true->e.on≠i)->oi.apart ops ok=true:=λk ok hk hki hun hno=>by
    refine hfree k ok hk hki ?_ hno;by_cases hjk:j=k
    ·subst hjk;exact hjun
    ·rw [getD_set_ne true hjk] at hun;exact hun
   have hcm:(listed.setIfInBounds i true).setIfInBounds j true=(listed.setIfInBounds j true).setIfInBounds i true:=Array.setIfInBounds_comm _ _ (λe=>hji e.symm);by_cases hk2:ks.getD j 2=2
   ·rw [if_pos hk2] at h1⊢;intro n;have h2:=wpOp_putIf ho hap (λcs b=>hsel i oi cs b hi) (λcs b=>hsel j o cs b ho) hQ hy (h1 n);refine wpOp_mono (λa' w' h3=>⟨h3.2.1,ih (listed.setIfInBounds j true) a' w' (h3.2.1.resolve_left hjz) hfree' Qa5 (ready_mono hr (Ne.symm hji)) h3.1 ?_⟩) h2;rw [<-hcm];exact h3.2.2
   ·rw [if_neg hk2] at h1⊢;obtain ⟨u,hu,hK⟩:=h1;obtain ⟨a1,a2,a3⟩:=Oper.apart_spec hap;refine ⟨u,hu.of_same (execOp_put o (λcs b=>hsel j o cs b ho) a oi.dst v a1).symm (wanted_put o a oi.dst v a1).symm,?_⟩
    refine ih (listed.setIfInBounds j true) _ w hS hfree' Qa5 (ready_mono hr (Ne.symm hji))
     (hy.of_same (execOp_put oi (λcs b=>hsel i oi cs b hi) a o.dst u a3) (wanted_put oi a o.dst u a3)) ?_
    rw [<-hcm,<-Act.put_comm a v u a2];exact hK
theorem Q7o {w:World} {i:Nat} {oi:Oper} {v:Value} {dep:Array Bool} (hi:ops[i]?=some oi) (hki:ks.getD i 2≠2) (hsel: ∀(j:Nat) (o:Oper) cs b,ops[j]?=some o->o.op≠ .select cs b):
  ∀(fuel:Nat) (listed:Array Bool) (a:Act),
   (∀j oj,ops[j]?=some oj->j≠i->listed.getD j true=false->(∀e∈oj.after,Region.binds .any e=true->e.on≠i)->oi.apart ops oj=true)->
   (∀j,dep.getD j false=true->j≠i/\listed.getD j true=false/\ ∃o,ops[j]?=some o/\ ∃e∈o.after,Region.binds .any e=true/\(e.on=i\/dep.getD e.on false=true))->
   (∀j oj,ops[j]?=some oj->dep.getD j false=false->j≠i->listed.getD j true=false->ks.getD j 2≠2)->
   i∈Region.ready .any ops listed->YieldsIn P ops (Dr w) oi v a->
   Cr P ops ks z S Q fuel (listed.setIfInBounds i true) (a.put oi.dst v) w->Cr P ops ks z S Q (fuel+1) listed a w:=by
 intro fuel;induction fuel with
 |zero=>
  intro listed a _ _ _ hr hy H;refine ⟨λh=>(by rw [h] at hr;cases hr),λj hj o ho=>?_⟩;by_cases hji:j=i
  ·subst hji;rw [hi] at ho;injection ho with ho;subst ho;rw [if_neg hki];exact ⟨v,hy,H⟩
  ·have:=ready_mono hj hji;rw [H.1] at this;cases this
 |succ fuel ih=>
  intro listed a hfree Nh hkind hr hy H;refine ⟨λh=>(by rw [h] at hr;cases hr),λj hj o ho=>?_⟩;by_cases hji:j=i
  ·subst hji;rw [hi] at ho;injection ho with ho;subst ho;rw [if_neg hki];exact ⟨v,hy,H⟩
  ·have h1:=H.2 j (ready_mono hj hji) o ho;obtain ⟨hjun,oj,hoj,hall⟩:=mem_ready.1 hj;rw [ho] at hoj;injection hoj with hoj;subst hoj
   have Qjp: ∀k,listed.getD k true=false->listed.getD k false=true->False:=λk h0 h1=>by
    rcases Nat.lt_or_ge k listed.size with h'|h'
    ·simp [h'] at h0 h1;rw [h0] at h1;cases h1
    ·simp [Array.getElem?_eq_none h'] at h1
   have hnot: ∀e∈o.after,Region.binds .any e=true->e.on≠i:=λe he hb heq=>
    Qjp i (mem_ready.1 hr).1 (heq▸hall e he hb)
   have hnd:dep.getD j false=false:=by
    cases hd:dep.getD j false with
    |false=>rfl
    |true=>
     obtain ⟨_,_,o',ho',e,he,hb,h⟩:=Nh j hd;rw [ho] at ho';injection ho' with ho';subst ho';rcases h with h|h
     ·exact absurd h (hnot e he hb)
     ·exact (Qjp e.on (Nh e.on h).2.1 (hall e he hb)).elim
   have hap:=hfree j o ho hji hjun hnot
   have hset: ∀k,(listed.setIfInBounds j true).getD k true=false->listed.getD k true=false:=λk hun=>by
    by_cases hjk:j=k
    ·subst hjk;exact hjun
    ·rw [getD_set_ne true hjk] at hun;exact hun
   have hfree': ∀k ok,ops[k]?=some ok->k≠i->(listed.setIfInBounds j true).getD k true=false->
     (∀e∈ok.after,Region.binds .any e=true->e.on≠i)->oi.apart ops ok=true:=λk ok hk hki hun hno=>hfree k ok hk hki (hset k hun) hno
   have hcm:(listed.setIfInBounds i true).setIfInBounds j true=(listed.setIfInBounds j true).setIfInBounds i true:=Array.setIfInBounds_comm _ _ (λe=>hji e.symm);have hk2:=hkind j o ho hnd hji hjun;rw [if_neg hk2] at h1⊢;obtain ⟨u,hu,hK⟩:=h1;obtain ⟨a1,a2,a3⟩:=Oper.apart_spec hap;refine ⟨u,hu.of_same (execOp_put o (λcs b=>hsel j o cs b ho) a oi.dst v a1).symm (wanted_put o a oi.dst v a1).symm,?_⟩
   refine ih (listed.setIfInBounds j true) _ hfree' (λk hk=>?_) (λk ok hk h1 h2 h3=>hkind k ok hk h1 h2 (hset k h3)) (ready_mono hr (Ne.symm hji))
    (hy.of_same (execOp_put oi (λcs b=>hsel i oi cs b hi) a o.dst u a3) (wanted_put oi a o.dst u a3)) ?_
   ·obtain ⟨k1,k2,k3⟩:=Nh k hk;refine ⟨k1,?_,k3⟩;rw [getD_set_ne true (λe=>by subst e;rw [hnd] at hk;cases hk)];exact k2
   ·rw [<-hcm,<-Act.put_comm a v u a2];exact hK
def Mg (ops:Array Oper) (listed dep:Array Bool) (i z:Nat):Bool:=
 dep.getD z false&&(List.range ops.size).all λj=>
  !dep.getD j false||(j !=i&&!listed.getD j true&&match ops[j]? with
   |some o=>o.after.any λe=>Region.binds .any e&&(e.on==i||dep.getD e.on false)
   |none=>false)
theorem Ua {listed:Array Bool} {i:Nat} (hk:Mg ops listed (Xr ops i) i z=true):(Xr ops i).getD z false=true/\
  ∀j,(Xr ops i).getD j false=true->j≠i/\listed.getD j true=false/\ ∃o,ops[j]?=some o/\ ∃e∈o.after,Region.binds .any e=true/\(e.on=i\/(Xr ops i).getD e.on false=true):=by
 simp only [Mg,Bool.and_eq_true,List.all_eq_true,List.mem_range] at hk;refine ⟨hk.1,λj hj=>?_⟩
 have hjs:j<ops.size:=by
  rcases Nat.lt_or_ge j (Xr ops i).size with h'|h'
  ·have:=Iz ops i;omega
  ·simp [Array.getElem?_eq_none h'] at hj
 have h1:=hk.2 j hjs;rw [hj] at h1;simp only [Bool.not_true,Bool.false_or,Bool.and_eq_true,bne_iff_ne,Bool.not_eq_true'] at h1;obtain ⟨⟨h1,h2⟩,h3⟩:=h1;refine ⟨h1,h2,?_⟩;split at h3
 ·rename_i oj hoj
  obtain ⟨e,he,hb⟩:=Array.any_eq_true'.1 h3;simp only [Bool.and_eq_true,Bool.or_eq_true,beq_iff_eq] at hb;exact ⟨oj,hoj,e,he,hb.1,hb.2⟩
 ·cases h3
def A4 (ops:Array Oper) (ks:List Nat) (z:Nat):List Nat->Array Bool->Bool
 |[],listed=>Region.ready .any ops listed==[z]&&ks.getD z 2==2&&(Region.ready .any ops (listed.setIfInBounds z true)).isEmpty
 |i::rest,listed=>
  (Region.ready .any ops listed).contains i&&Region.free .any ops listed i&&i !=z&&
  (match ks.getD i 2 with
   |0=>Q92 ops z i||Region.ready .any ops listed==[i]||Mg ops listed (Xr ops i) i z
   |1=>Q27 ops ks listed (Xr ops i) i
   |2=>Region.ready .any ops listed==[i]
   |_=>false)&&
  A4 ops ks z rest (listed.setIfInBounds i true)
def Qhd (ops:Array Oper) (ks:List Nat) (z:Nat) (pre:List Nat):Bool:=Region.noSelect ops&&pre.length+1==ops.size&&A4 ops ks z pre (Array.replicate ops.size false)
def Qho (K:Act->World->Prop):Exit->Act->World->Prop
 | .normal,a,w=>K a w
 |_,_,_=>False
theorem Qip {Q1 Q2:Exit->Act->World->Prop} {o:Oper} {a:Act} {w:World} {K:Act->World->Prop} (h:o.wp P a w K (only Q1)):o.wp P a w K Q2:=by
 unfold Oper.wp at*;generalize (execOp a.eval o).run P w=r at*
 cases r with
 |ok n w'=>
  cases n<;>simp only [Oper.upon] at h⊢
  case value=>exact h
  case skip=>exact h
  case defer=>exact h
  case row=>exact h
  case enter f args=>
   refine Calls.mono h λe w'' he=>?_;cases e with
   |returned v=>exact he
   |panicked c=>exact he.elim
   |outgrown=>obtain ⟨_,_,h⟩:=he;exact h.elim
 |halt x w'=>cases x<;>simp only [Oper.upon] at h⊢;exact h.elim
theorem Q94 {Q1 Q2:Exit->Act->World->Prop} {i:Nat} {K:Act->World->Prop} {a:Act} {w:World} (h:wpOp P ops (only Q1) i K a w):wpOp P ops (only Q2) i K a w:=by
 unfold wpOp at*;split
 ·rename_i hn;simp only [hn] at h;exact h
 ·rename_i o ho
  simp only [ho] at h;split
  ·rename_i hw
   simp only [hw,if_true] at h;exact .inl (h.elim Qip λ⟨_,_,_,hh⟩=>hh.elim)
  ·rename_i hw;simp only [hw] at h;exact h
abbrev Qhe (P:Program) (ops:Array Oper) (ks:List Nat) (Q:Exit->Act->World->Prop) (z:Nat):Exit->Act->World->Prop:=Qho λa w=>J1 P ops ks (λ_=>True) Q [z] a w
theorem V5 (hSd: ∀w n,S w->S (w.drewN n)) (hs:Region.noSelect ops=true): ∀(pre:List Nat) (listed:Array Bool) (a:Act) (w:World),S w->
  A4 ops ks z pre listed=true->J1 P ops ks S (Qhe P ops ks Q z) pre a w->Cr P ops ks z S (only Q) (pre.length+1) listed a w
 |[],listed,a,w,_,hB,h=>by
  simp only [A4,Bool.and_eq_true,beq_iff_eq,List.isEmpty_iff] at hB;obtain ⟨⟨hr,hk⟩,hB'⟩:=hB;obtain ⟨o,ho,h⟩:=h 0;rw [hk] at h;refine ⟨λh0=>(by rw [h0] at hr;cases hr),λj hj oj hoj=>?_⟩;rw [hr] at hj;simp only [List.mem_singleton] at hj;subst hj;rw [ho] at hoj;injection hoj with hoj;subst hoj;rw [if_pos hk];exact λn=>wpOp_mono (λa w hh=>⟨.inl rfl,hB',hh.2⟩) (show wpOp P ops (only Q) j (λa' w'=>True/\J1 P ops ks (λ_=>True) Q [] a' w') a (w.drewN n) from h n)
 |i::rest,listed,a,w,hS,hB,h=>by
  obtain ⟨o,ho,h⟩:=h;simp only [A4,Bool.and_eq_true] at hB;obtain ⟨⟨⟨⟨hr,hf⟩,hiz⟩,hk⟩,hB'⟩:=hB;have G5:i∈Region.ready .any ops listed:=by simpa using hr
  have hko:ks.getD i 2=0\/ks.getD i 2=1\/ks.getD i 2=2:=by
   split at hk
   ·rename_i h;exact .inl h
   ·rename_i h;exact .inr (.inl h)
   ·rename_i h;exact .inr (.inr h)
   ·cases hk
  rcases hko with hko|hko|hko
  ·rw [hko] at h;obtain ⟨v,hy,hK⟩:=h;rw [hko] at hk;simp only [Bool.or_eq_true,beq_iff_eq] at hk;rcases hk with (hk|hk)|hk
   ·exact Qbc (Q6k hk) hSd ho (by omega) (Region.noSelect_spec hs) (λ_ _ _ h=>h.elim) (rest.length+1) listed a w hS (Region.free_spec ho hf) G5 hy (V5 hSd hs rest _ _ _ hS hB' hK)
   ·refine ⟨λh0=>(by rw [h0] at hk;cases hk),λj hj oj hoj=>?_⟩;rw [hk] at hj;simp only [List.mem_singleton] at hj;subst hj;rw [ho] at hoj;injection hoj with hoj;subst hoj;rw [if_neg (by omega)];exact ⟨v,Z4 (λn=>hSd w n hS) hy,V5 hSd hs rest _ _ _ hS hB' hK⟩
   ·exact Q7n (Ua hk).1 hSd ho (by omega) (Region.noSelect_spec hs) (λ_ _ _ h=>h.elim) (rest.length+1) listed a w hS (Region.free_spec ho hf) (Ua hk).2 G5 hy (V5 hSd hs rest _ _ _ hS hB' hK)
  ·rw [hko] at h hk;obtain ⟨v,hy,hK⟩:=h;simp only [Q27,List.all_eq_true,List.mem_range,Bool.and_eq_true] at hk;have hlt: ∀j oj,ops[j]?=some oj->j<ops.size:=λj oj h=>(Array.getElem?_eq_some_iff.1 h).1;refine Q7o (dep:=Xr ops i) ho (by omega) (Region.noSelect_spec hs) (rest.length+1) listed a (Region.free_spec ho hf) (λj hj=>?_) (λj oj hoj hd hne hun=>?_) G5 hy (V5 hSd hs rest _ _ _ hS hB' hK)
   ·have hjs:j<ops.size:=by
     rcases Nat.lt_or_ge j (Xr ops i).size with h'|h'
     ·have:=Iz ops i;omega
     ·simp [Array.getElem?_eq_none h'] at hj
    have h1:=(hk j hjs).1;rw [hj] at h1;simp only [Bool.not_true,Bool.false_or,Bool.and_eq_true,bne_iff_ne,Bool.not_eq_true'] at h1;obtain ⟨⟨h1,h2⟩,h3⟩:=h1;refine ⟨h1,h2,?_⟩;split at h3
    ·rename_i oj hoj
     obtain ⟨e,he,hb⟩:=Array.any_eq_true'.1 h3;simp only [Bool.and_eq_true,Bool.or_eq_true,beq_iff_eq] at hb;exact ⟨oj,hoj,e,he,hb.1,hb.2⟩
    ·cases h3
   ·have h1:=(hk j (hlt j oj hoj)).2;rw [hd] at h1;simp only [Bool.false_or,Bool.or_eq_true,beq_iff_eq,bne_iff_ne] at h1;rcases h1 with (h1|h1)|h1
    ·exact absurd h1 hne
    ·rw [hun] at h1;cases h1
    ·exact h1
  ·rw [hko] at h hk;have hk':Region.ready .any ops listed=[i]:=by simpa using hk
   refine ⟨λh0=>(by rw [h0] at hk';cases hk'),λj hj oj hoj=>?_⟩;rw [hk'] at hj;simp only [List.mem_singleton] at hj;subst hj;rw [ho] at hoj;injection hoj with hoj;subst hoj;rw [if_pos hko];exact λn=>wpOp_mono (λa w hh=>⟨.inr hh.1,V5 hSd hs rest _ a w hh.1 hB' hh.2⟩) (Q94 (h n))
theorem J4 {id:Nat} {a:Act} {w:World} {l:List Oper} (S:World->Prop) (ks pre:List Nat) (z:Nat) (hm:P.follows .mixedOrders=true) (hB:Qhd l.toArray ks z pre=true)
  (hSd: ∀w n,S w->S (w.drewN n)) (hS:S w) (h:J1 P l.toArray ks S (Qhe P l.toArray ks Q z) pre a w):(Code.region id l.toArray true).wp P Q a w:=by
 simp only [Qhd,Bool.and_eq_true,beq_iff_eq] at hB;refine wp_region_any hm (Kl _ _ _ _ ?_);have:=G9 _ (Array.replicate l.toArray.size false) a w 1 (V5 hSd hB.1.1 pre _ a _ hS hB.2 h);rw [hB.1.2] at this;exact this
theorem Yc {a:Act} {w:World} (h: ∀n,J1 P ops ks (λ_=>True) Q [z] a (w.drewN n)):J1 P ops ks S (Qhe P ops ks Q z) [] a w:=h
end
end Go.Mer
