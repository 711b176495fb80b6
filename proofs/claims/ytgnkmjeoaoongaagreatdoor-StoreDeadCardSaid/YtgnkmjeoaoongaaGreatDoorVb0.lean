/- store -/
import Derived.Test.YtgnkmjeoaoongaaGreatDoorVa9
import Derived.Deep.MidRow
namespace Go.Mer
open Go
def Yv (s:Option (List UInt8)):Nat×Option (List UInt8):=
 match s with
 |none=>(0,none)
 |some l=>
  match Qc5 0 0 l with
  |none=>(0,none)
  |some x=>(x.1,some x.2)
def J38 (n:Nat) (s:Option (List UInt8)):List UInt8×Option (List UInt8):=
 match s with
 |none=>([],none)
 |some l=>if n<=l.length then (l.take n,some (l.drop n)) else ([],none)
def Xn (s:Option (List UInt8)):List UInt8×Option (List UInt8):=J38 (Yv s).1 (Yv s).2
def Jn (p:List UInt8):List UInt8:=Qq p.length++p
theorem U8 (n:Nat) (h:n<=4611686018427387904) (r:List UInt8):Yv (some (Qq n++r))=(n,some r):=by
 unfold Yv;simp only [Qm8 n h r]
theorem O1 (p:List UInt8) (h:p.length<=4611686018427387904) (r:List UInt8):Xn (some (Jn p++r))=(p,some r):=by
 unfold Xn Jn;rw [List.append_assoc,U8 _ h];unfold J38;simp only
 rw [if_pos (by rw [List.length_append];omega),List.take_left' rfl,List.drop_left' rfl]
structure Qo where
 m:Int
 c:Int
 o:Int
 val:List UInt8
 gone:Bool
 ttl:Int
structure Qu where
 o:Int
 seq:Int
 key:ByteArray
 v:Qo
def X8 (v:Qo):Bool:=Za v.m v.c&&decide (0<=v.o/\v.o<5/\v.val.length<=1024/\0<=v.ttl/\v.ttl<=281474976710655/\(v.gone=true->v.val.length=0/\v.ttl=0))
def Z4 (r:Qu):Bool:=X8 r.v&&decide (r.v.o=r.o/\1<=r.seq/\r.seq<=1099511627776/\1<=r.key.size/\r.key.size<=64)
theorem Zi {v:Qo}:X8 v=true↔(0<=v.m/\v.m<=281474976710655/\0<=v.c/\v.c<=65535)/\0<=v.o/\v.o<5/\v.val.length<=1024/\0<=v.ttl/\v.ttl<=281474976710655/\(v.gone=true->v.val.length=0/\v.ttl=0):=by
 unfold X8;rw [Bool.and_eq_true,Zw,decide_eq_true_iff]
theorem Y9 {r:Qu}:Z4 r=true↔X8 r.v=true/\r.v.o=r.o/\1<=r.seq/\r.seq<=1099511627776/\1<=r.key.size/\r.key.size<=64:=by
 unfold Z4;rw [Bool.and_eq_true,decide_eq_true_iff]
def Ev (b:Bool):Nat:=if b=true then 1 else 0
def Vl (r:Qu):List UInt8:=
 Qq r.o.toNat++(Qq r.seq.toNat++(Jn r.key.data.toList++(Qq r.v.m.toNat++(Qq r.v.c.toNat++(Qq (Ev r.v.gone)++(Qq r.v.ttl.toNat++Jn r.v.val))))))
def Qfp (l:List UInt8):Qu×Nat×Option (List UInt8):=
 let a:=Yv (some l)
 let b:=Yv a.2
 let k:=Xn b.2
 let m:=Yv k.2
 let c:=Yv m.2
 let g:=Yv c.2
 let t:=Yv g.2
 let x:=Xn t.2
 (⟨(a.1:Nat),(b.1:Nat),⟨k.1.toArray⟩,⟨(m.1:Nat),(c.1:Nat),(a.1:Nat),x.1,g.1==1,(t.1:Nat)⟩⟩,g.1,x.2)
def Qjs (l:List UInt8):Option Qu:=if (Qfp l).2.2=some []/\(Qfp l).2.1<=1/\Z4 (Qfp l).1=true then some (Qfp l).1 else none
theorem Xq (k:ByteArray):k.data.toList.length=k.size:=rfl
theorem Quj (k:ByteArray):(⟨k.data.toList.toArray⟩:ByteArray)=k:=by
 cases k
 rfl
theorem Vv {r:Qu} (h:Z4 r=true):(Vl r).length<=1120:=by
 obtain ⟨hv,e1,e2,e3,e4,e5⟩:=Y9.1 h;obtain ⟨⟨m1,m2,c1,c2⟩,o1,o2,v1,t1,t2,_⟩:=Zi.1 hv;have a1:=Js 0 r.o.toNat (by rw [<-e1];simp;omega);have a2:=Js 5 r.seq.toNat (by simp;omega);have a3:=Js 0 r.key.data.toList.length (by rw [Xq];simp;omega);have a4:=Js 6 r.v.m.toNat (by simp;omega);have a5:=Js 2 r.v.c.toNat (by simp;omega);have a6:=Js 0 (Ev r.v.gone) (by unfold Ev;split<;>decide);have a7:=Js 6 r.v.ttl.toNat (by simp;omega);have a8:=Js 1 r.v.val.length (by simp;omega);have a9:=Xq r.key;unfold Vl Jn;simp only [List.length_append];omega
theorem Qju {r:Qu} (h:Z4 r=true):Qfp (Vl r)=(r,Ev r.v.gone,some []):=by
 obtain ⟨hv,e1,e2,e3,e4,e5⟩:=Y9.1 h;obtain ⟨⟨m1,m2,c1,c2⟩,o1,o2,v1,t1,t2,_⟩:=Zi.1 hv;have hg:Ev r.v.gone<=1:=by unfold Ev;split<;>decide
 have hb:Xn (some (Jn r.v.val))=(r.v.val,some []):=by
  have:=O1 r.v.val (by omega) [];rwa [List.append_nil] at this
 unfold Qfp Vl;simp only
 rw [U8 _ (by omega)];simp only
 rw [U8 _ (by omega)];simp only
 rw [O1 _ (by rw [Xq];omega)];simp only
 rw [U8 _ (by omega)];simp only
 rw [U8 _ (by omega)];simp only
 rw [U8 _ (by omega)];simp only
 rw [U8 _ (by omega)];simp only
 rw [hb,Quj];have hgg:(Ev r.v.gone==1)=r.v.gone:=by cases r.v.gone<;>rfl
 rw [hgg];obtain ⟨o,seq,key,m,c,vo,val,gone,ttl⟩:=r;simp only at e1 o1 o2 e2 m1 c1 t1⊢
 subst e1;rw [Int.toNat_of_nonneg o1,Int.toNat_of_nonneg (by omega:0<=seq),Int.toNat_of_nonneg m1,Int.toNat_of_nonneg c1,Int.toNat_of_nonneg t1]
theorem Qjt {r:Qu} (h:Z4 r=true):Qjs (Vl r)=some r:=by
 unfold Qjs;rw [Qju h];refine if_pos ⟨rfl,?_,h⟩;show Ev r.v.gone<=1
 unfold Ev;split<;>decide
def X3 (l:List Qu):List UInt8:=l.flatMap λr=>Jn (Vl r)
def Fl (l:List Qu):List UInt8:=Qq l.length++X3 l
def Qe9:Nat->Option (List UInt8)->Option (List Qu×Option (List UInt8))
 |0,s=>some ([],s)
 |n+1,s=>
  match Qjs (Xn s).1 with
  |none=>none
  |some r=>
   match Qe9 n (Xn s).2 with
   |none=>none
   |some y=>some (r::y.1,y.2)
def Qea (l:List UInt8):Option (List Qu):=
 if 64<(Yv (some l)).1 then none
 else
  match Qe9 (Yv (some l)).1 (Yv (some l)).2 with
  |none=>none
  |some y=>if y.2=some [] then some y.1 else none
theorem Ea {l:List Qu} (h: ∀r∈l,Z4 r=true):(X3 l).length<=l.length*1122:=by
 unfold X3;induction l with
 |nil=>exact Nat.le_refl _
 |cons r l ih=>
  have h1:=Vv (h r (List.mem_cons_self ..));have h2:=ih λx hx=>h x (List.mem_cons_of_mem _ hx);have h3:=Js 1 (Vl r).length (by simp;omega);rw [List.flatMap_cons,List.length_append,List.length_cons];unfold Jn at h2⊢;rw [List.length_append];omega
theorem Od {l:List Qu} (h: ∀r∈l,Z4 r=true) (hl:l.length<=64):(Fl l).length<=71809:=by
 have h1:=Ea h;have h2:=Js 0 l.length (by simp;omega);unfold Fl;rw [List.length_append];omega
theorem Qc9 {l:List Qu} (h: ∀r∈l,Z4 r=true) (r:List UInt8):Qe9 l.length (some (X3 l++r))=some (l,some r):=by
 induction l with
 |nil=>rfl
 |cons x l ih=>
  have hx:=h x (List.mem_cons_self ..);have h1:=Vv hx
  have e:X3 (x::l)++r=Jn (Vl x)++(X3 l++r):=by
   unfold X3;rw [List.flatMap_cons,List.append_assoc]
  rw [List.length_cons,Qe9,e,O1 _ (by omega)];simp only [Qjt hx,ih λy hy=>h y (List.mem_cons_of_mem _ hy)]
theorem Qcb {l:List Qu} (h: ∀r∈l,Z4 r=true) (hl:l.length<=64):Qea (Fl l)=some l:=by
 have e:=Qc9 h [];rw [List.append_nil] at e;unfold Qea Fl;rw [U8 _ (by omega)];simp only
 rw [if_neg (by omega),e];rfl
def Zq (m c n d:Int):Bool:=decide (m<n\/(m=n/\c<d))
theorem Kn {m c n d:Int}:Zq m c n d=true↔(m<n\/(m=n/\c<d)):=decide_eq_true_iff
theorem Hd {m c n d:Int}:Zq m c n d=false↔ ¬(m<n\/(m=n/\c<d)):=decide_eq_false_iff_not
def Bl (a b:Qo):Bool:=decide (a.m<b.m\/(a.m=b.m/\(a.c<b.c\/(a.c=b.c/\a.o<b.o))))
theorem Hk {a b:Qo}:Bl a b=true↔(a.m<b.m\/(a.m=b.m/\(a.c<b.c\/(a.c=b.c/\a.o<b.o)))):=decide_eq_true_iff
theorem Qri {a b:Qo}:Bl a b=false↔ ¬(a.m<b.m\/(a.m=b.m/\(a.c<b.c\/(a.c=b.c/\a.o<b.o)))):=decide_eq_false_iff_not
theorem Cu {a b c:Qo} (h:Bl a b=true) (h':Bl b c=true):Bl a c=true:=by
 rw [Hk] at*;omega
theorem Qne {a b:Qo} (h:Bl a b=false) (h':Bl b a=false):a.m=b.m/\a.c=b.c/\a.o=b.o:=by
 rw [Qri] at*;omega
def Q45 (l:List Qo):Prop:=l.Pairwise λa b=>Bl a b=true
def E8 (l:List Qo) (v:Qo):Nat:=(l.takeWhile λx=>Bl x v).length
def V8 (l:List Qo) (v:Qo):Bool:=match l[E8 l v]? with|some x=>!Bl v x|none=>false
def E0 (l:List Qo) (v:Qo):List Qo:=l.take (E8 l v)++v::l.drop (E8 l v)
theorem G9 {α:Type} (p:α->Bool): ∀l:List α,l.take (l.takeWhile p).length=l.takeWhile p:=by
 intro l;induction l with
 |nil=>rfl
 |cons x l ih=>
  rw [List.takeWhile_cons];split
  ·rw [List.length_cons,List.take_succ_cons,ih]
  ·rfl
theorem Hh {α:Type} (p:α->Bool) (l:List α):(l.takeWhile p).length<=l.length:=by
 have:=congrArg List.length (G9 p l);rw [List.length_take] at this;omega
theorem Mh {α:Type} {p:α->Bool} {l:List α}: ∀{x:α},x∈l.takeWhile p->p x=true:=by
 intro x hx;induction l with
 |nil=>exact absurd hx List.not_mem_nil
 |cons y l ih=>
  rw [List.takeWhile_cons] at hx;split at hx
  ·next hy=>
   rcases List.mem_cons.1 hx with rfl|hx
   ·exact hy
   ·exact ih hx
  ·exact absurd hx List.not_mem_nil
theorem Fa {α:Type} {p:α->Bool}: ∀{l:List α} {x:α},l[(l.takeWhile p).length]?=some x->p x=false:=by
 intro l;induction l with
 |nil=>intro x h;simp at h
 |cons y l ih=>
  intro x h;rw [List.takeWhile_cons] at h;split at h
  ·rw [List.length_cons,List.getElem?_cons_succ] at h;exact ih h
  ·next hy=>
   rw [List.length_nil,List.getElem?_cons_zero] at h;injection h with h;subst h;simpa using hy
theorem Ag (l:List Qo) (v:Qo):E8 l v<=l.length:=Hh _ _
theorem Lc {l:List Qo} {v x:Qo} (h:x∈l.take (E8 l v)):Bl x v=true:=by
 unfold E8 at h;rw [G9] at h;exact Mh (p:=λx=>Bl x v) h
theorem Q18 {l:List Qo} {v:Qo} (hs:Q45 l) (hh:V8 l v=false) {x:Qo} (h:x∈l.drop (E8 l v)):Bl v x=true:=by
 obtain ⟨i,hi,rfl⟩:=List.mem_iff_getElem.1 h;rw [List.length_drop] at hi;have h0:l[E8 l v]?=some l[E8 l v]:=List.getElem?_eq_getElem (by omega)
 have hv:Bl v l[E8 l v]=true:=by
  unfold V8 at hh;rw [h0] at hh;simpa using hh
 rw [List.getElem_drop];rcases Nat.eq_zero_or_pos i with rfl|hp
 ·exact hv
 ·exact Cu hv (List.pairwise_iff_getElem.1 hs _ _ (by omega) (by omega) (by omega))
theorem Q8m {l:List Qo} {v:Qo} (hs:Q45 l) (hh:V8 l v=false):Q45 (E0 l v):=by
 unfold Q45 E0;rw [List.pairwise_append,List.pairwise_cons];refine ⟨hs.sublist (List.take_sublist _ _),⟨λx hx=>Q18 hs hh hx,hs.sublist (List.drop_sublist _ _)⟩,λx hx y hy=>?_⟩;rcases List.mem_cons.1 hy with rfl|hy
 ·exact Lc hx
 ·exact Cu (Lc hx) (Q18 hs hh hy)
theorem Qmj {l:List Qo} {v x:Qo}:x∈E0 l v↔x=v\/x∈l:=by
 unfold E0;rw [List.mem_append,List.mem_cons];constructor
 ·rintro (h|h|h)
  ·exact .inr (List.mem_of_mem_take h)
  ·exact .inl h
  ·exact .inr (List.mem_of_mem_drop h)
 ·rintro (h|h)
  ·exact .inr (.inl h)
  ·rw [<-List.take_append_drop (E8 l v) l] at h;rcases List.mem_append.1 h with h|h
   ·exact .inl h
   ·exact .inr (.inr h)
theorem Fp (l:List Qo) (v:Qo):(E0 l v).length=l.length+1:=by
 have:=Ag l v;unfold E0;rw [List.length_append,List.length_cons,List.length_take,List.length_drop];omega
theorem Qgj {l:List Qo} {v:Qo} (h: ∀x∈l,¬(x.m=v.m/\x.c=v.c/\x.o=v.o)):V8 l v=false:=by
 unfold V8;split
 ·next x hx=>
  have h1:=Fa (p:=λx=>Bl x v) hx;have hm:x∈l:=List.mem_of_getElem? hx;cases hv:Bl v x with
  |true=>rfl
  |false=>exact absurd (Qne h1 hv) (h x hm)
 ·rfl
def N8 (v:Qo) (m c:Int):Bool:=!Zq m c v.m v.c&&(!v.gone&&(v.ttl==0||decide (m-v.m<v.ttl)))
def Xk (l:List Qo) (m c:Int):Nat:=(l.takeWhile λx=>!Zq m c x.m x.c).length
def Qau (l:List Qo) (m c:Int):Option Qo:=if Xk l m c=0 then none else l[Xk l m c-1]?
def Uh (l:List Qo) (m c:Int):Option (List UInt8):=match Qau l m c with|none=>none|some v=>if N8 v m c=true then some v.val else none
def J3f (l:List Qo) (m c:Int):Nat:=match Qau l m c with|none=>0|some v=>if N8 v m c=true then Xk l m c-1 else Xk l m c
def J3d (l:List Qo) (m c:Int):List Qo:=l.drop (J3f l m c)
theorem Q1z (l:List Qo) (m c:Int):Xk l m c<=l.length:=Hh _ _
theorem Q20 {l:List Qo} {m c:Int} {i:Nat} {x:Qo} (hi:i<Xk l m c) (hx:l[i]?=some x):Zq m c x.m x.c=false:=by
 have h1:x∈l.take (Xk l m c):=by
  refine List.mem_of_getElem? (i:=i) ?_;rw [List.getElem?_take_of_lt hi];exact hx
 unfold Xk at h1;rw [G9] at h1;simpa using Mh (p:=λx:Qo=>!Zq m c x.m x.c) h1
theorem Qck {l:List Qo} {m c:Int} (hs:Q45 l) {i:Nat} {x:Qo} (hi:Xk l m c<=i) (hx:l[i]?=some x):Zq m c x.m x.c=true:=by
 have hil:=(List.getElem?_eq_some_iff.1 hx).1;have h0:l[Xk l m c]?=some l[Xk l m c]:=List.getElem?_eq_getElem (by omega);have h1:=Fa (p:=λx:Qo=>!Zq m c x.m x.c) h0;have h1:Zq m c l[Xk l m c].m l[Xk l m c].c=true:=by simpa using h1
 rcases Nat.lt_or_ge (Xk l m c) i with hlt|hge
 ·have h2:=List.pairwise_iff_getElem.1 hs _ _ (by omega) hil hlt;rw [(List.getElem?_eq_some_iff.1 hx).2] at h2;rw [Hk] at h2;rw [Kn] at h1⊢;omega
 ·have:i=Xk l m c:=by omega
  subst this;rw [h0] at hx;injection hx with hx;rw [<-hx];exact h1
end Go.Mer
namespace Go.Proofs.YtgnkmjeoaoongaaGreatDoor
open Go.RowKit Go.Mer
theorem Lt (w:World) (b:Nat) (a:Option Addr) (c:Nat) (l:List UInt8) (hb:w.heap[b]?=some (.cells #[.slice a l.length c] 121 (0,0))) (hR:Rd w w.heap.size a (u8s l)) (hl:l.length<=140737488355328):
  Calls Tryz.prog 61 #[.pointer (some ⟨b,0,none⟩)] w (Qda w l):=by
 have hcl:=Ni a c l w.heap.size w hR hl;have c0:=Q4 hb 0;have hbl:=Q7 hb;simp at c0
 obtain ⟨n,hn⟩: ∃n,n=l.length:=⟨_,rfl⟩;rw [<-hn] at hcl c0;have Qa9:=zz hcl;have HN:=zz hn;clear hcl hb hR hl hn;go_enter Tryz.func61,Tryz.ntmps61
 go_wp2_with fail
 have hc:=Qa9.out;with_reducible refine hc.mono ?_
 rintro e w1 ⟨v,rfl,ho,hk,hf⟩;obtain ⟨_,a1,c1,rfl,_⟩:=id ho;have Yf:=zz (show Qda w l (.returned (.slice a1 n c1)) w1 from ⟨a1,c1,by rw [<-show n=_ from HN],by rw [<-show n=_ from HN];exact ho,by rw [<-show n=_ from HN];exact hf,hk⟩);clear ho hk hf hc;go_wp2_with fail
 go_ret
 exact Yf.out
end Go.Proofs.YtgnkmjeoaoongaaGreatDoor
namespace Go.Mer
open Go Go.RowKit
variable {P:Program}
theorem Qj {ops:Array Oper} {rest:List Oper} {op:Oper} {a:Act} {w:World} {Q:Exit->Act->World->Prop} (hgd:op.guard=none) (ty:TypeId) (x:Operand) (ho:op.op= .load ty x)
  (b o:Nat) (hx:a.eval x= .pointer (some ⟨b,o,none⟩)) (cs:List Value) (d:TypeDesc) (hc:Hid (w.rangeAt b o cs))
  (hu:P.underlying ty=some d) (hd:d.isRow=true) (hi:(P.info? ty).map (·.size)=some cs.length)
  (h:wpList P ops Q rest (a.put op.dst (.agg cs.toArray)) w):wpList P ops Q (op::rest) a w:=wpList_load_mid hgd ty x ho b o hx cs d hc.out hu hd hi h
theorem Qy {ops:Array Oper} {rest:List Oper} {o:Oper} {a:Act} {W:World} {Q:Exit->Act->World->Prop} (hgd:o.guard=none) (ty:TypeId) (x y:Operand) (ho:o.op= .store ty x y)
  (g:Nat) (hg:g=W.heap.size) (cells old:Array Value) (t:TypeId) (hx:a.eval x= .pointer (some ⟨g,0,none⟩)) (hy:a.eval y= .agg cells)
  (hi:(P.info? ty).map (·.size)=some cells.size) (hold:old.size=cells.size) (h1:cells.toList.all (·.oneCell')=true)
  (h:wpList P ops Q rest (a.put o.dst undef) (W.alloc (.cells cells t))):wpList P ops Q (o::rest) a (W.alloc (.cells old t)):=by
 subst hg;refine wpList_store_row hgd ty x y ho _ cells hx hy t old (heap_alloc_new W _) hi hold (by simpa using h1) ?_;rw [World.setRow_alloc_new];exact h
theorem Qc {op:Oper} {a:Act} {w:World} (ty:TypeId) (x:Operand) (ho:op.op= .load ty x) (b o:Nat) (hx:a.eval x= .pointer (some ⟨b,o,none⟩)) (cs:List Value) (d:TypeDesc) (hc:w.rangeAt b o cs)
  (hu:P.underlying ty=some d) (hd:d.isRow=true) (hi:(P.info? ty).map (·.size)=some cs.length):(execOp a.eval op).run P w= .ok (.value (.agg cs.toArray)) w:=by
 unfold execOp;simp only [ho,hx,Instr.loadAt,Instr.sureAddr,Sem.run_bind,Sem.run_pure,Result.andThen_ok,run_loadVar_mid w b o ty cs d hc hu hd hi]
theorem Zx {ops:Array Oper} {rest:List Oper} {o:Oper} {a:Act} {w:World} {Q:Exit->Act->World->Prop} (hgd:o.guard=none) (ty:TypeId) (x y:Operand) (ho:o.op= .store ty x y)
  (g:Nat) (cells:Array Value) (hx:a.eval x= .pointer (some ⟨g,0,none⟩)) (hy:a.eval y= .agg cells)
  (t:TypeId) (old:Array Value) (hg:Hid (w.heap[g]?=some (.cells old t (0,0)))) (hi:(P.info? ty).map (·.size)=some cells.size)
  (hold:old.size=cells.size) (h1:cells.toList.all (·.oneCell')=true)
  (h:wpList P ops Q rest (a.put o.dst undef) (w.setRow g cells)):wpList P ops Q (o::rest) a w:=
 wpList_store_row hgd ty x y ho g cells hx hy t old hg.out hi hold (by simpa using h1) h
theorem Kp.setRow {S:Nat->Prop} {a b:World} (h:Kp S a b) {g:Nat} (hp:S g\/a.heap.size<=g) (cs:Array Value):Kp S a (b.setRow g cs):=
 h.trans (T:=One g) ⟨rfl,rfl,rfl,by simp [World.setRow],λk _ hn=>by
   show (b.heap.modify g _)[k]?=_
   rw [Array.getElem?_modify,if_neg (λe=>hn e.symm)]⟩
  (λi hi hT=>by
   rw [show i=g from hT] at hi⊢;rcases hp with hp|hp
   ·exact hp
   ·omega)
theorem Uu {w:World} {g:Nat} {cs old:Array Value} {t:TypeId} (h:w.heap[g]?=some (.cells old t (0,0))):(w.setRow g cs).heap[g]?=some (.cells cs t (0,0)):=by
 show (w.heap.modify g _)[g]?=_
 rw [Array.getElem?_modify,if_pos rfl,h];rfl
theorem Zt {ops:Array Oper} {ks:List Nat} {S:World->Prop} {Q:Exit->Act->World->Prop} {i:Nat} {o:Oper} {rest:List Nat} {a:Act} {w:World} (ho:ops[i]?=some o) (hk:ks.getD i 2=2)
  (hg:Region.wanted o (yielded ops a.tmps)=false) {A:Act} (hA:a.put o.dst undef=A) (h: ∀n,S (w.drewN n)/\Ji P ops ks S Q rest A (w.drewN n)):Ji P ops ks S Q (i::rest) a w:=by
 subst hA;refine Q8 ho hk λn=>?_;unfold wpList;rw [if_neg (by rw [hg];decide)];exact ⟨rfl,h n⟩
theorem Qg {W:World} {b:Nat} {cs:Array Value} {t:TypeId} (h:W.heap[b]?=some (.cells cs t (0,0))) (o n:Nat):W.rangeAt b o ((cs.toList.drop o).take n):=λj v hv=>by
 rw [Q4 h];rw [List.getElem?_take] at hv;split at hv
 ·rw [List.getElem?_drop] at hv;simpa using hv
 ·cases hv
end Go.Mer
namespace Go.Proofs.YtgnkmjeoaoongaaGreatDoor
open Go.RowKit Go.Mer
structure Qm where
 v:Qo
 a:Option Addr
 cap:Nat
structure Qe where
 r:Qu
 a:Option Addr
 cap:Nat
def Qm.sl (x:Qm):Value:= .slice x.a x.v.val.length x.cap
def Qe.sl (x:Qe):Value:= .slice x.a x.r.v.val.length x.cap
def Qe.Qi6 (x:Qe):Qm:=⟨x.r.v,x.a,x.cap⟩
def Qv (x:Qm):List Value:=[.int .i64 x.v.m, .int .i64 x.v.c, .int .i64 x.v.o,x.sl, .bool x.v.gone, .int .i64 x.v.ttl]
def recC (x:Qe):List Value:=[.int .i64 x.r.o, .int .i64 x.r.seq, .string x.r.key, .int .i64 x.r.v.m, .int .i64 x.r.v.c, .int .i64 x.r.v.o,x.sl, .bool x.r.v.gone, .int .i64 x.r.v.ttl]
theorem Zm (x:Qm):(Qv x).length=6:=rfl
theorem Ua (x:Qe):(recC x).length=9:=rfl
theorem Fu (x:Qm): ∀u∈Qv x,u.oneCell'=true:=by
 intro u hu;simp only [Qv,Qm.sl,List.mem_cons,List.not_mem_nil,or_false] at hu;rcases hu with rfl|rfl|rfl|rfl|rfl|rfl<;>rfl
theorem G5 (x:Qe): ∀u∈recC x,u.oneCell'=true:=by
 intro u hu;simp only [recC,Qe.sl,List.mem_cons,List.not_mem_nil,or_false] at hu;rcases hu with rfl|rfl|rfl|rfl|rfl|rfl|rfl|rfl|rfl<;>rfl
theorem Nr:(Tryz.prog.info? 44).map (λi=>((i.zero.map λz=>z.cells.size),i.size,i.bytes))=some (some 6,6,64):=by kernel_rfl
theorem Ob:(Tryz.prog.info? 46).map (λi=>((i.zero.map λz=>z.cells.size),i.size,i.bytes))=some (some 9,9,96):=by kernel_rfl
def Qm.rd (x:Qm) (w:World):Prop:=Rd w w.heap.size x.a (u8s x.v.val)/\x.v.val.length<=x.cap/\x.cap<=maxLen
def Qe.rd (x:Qe) (w:World):Prop:=x.Qi6.rd w
def Qm.ok (x:Qm) (w:World):Prop:=Own w 5 1 x.sl x.v.val.length (u8s x.v.val)
def Qe.ok (x:Qe) (w:World):Prop:=x.Qi6.ok w
theorem Qm.ok.rd {x:Qm} {w:World} (h:x.ok w):x.rd w:=by
 obtain ⟨_,a,c,e,h1,h2,_⟩:=id h;unfold Qm.sl at e;injection e with e1 _ e3;exact ⟨Own.rd' h,by rw [e3];exact h1,by rw [e3];exact h2⟩
theorem Qe.ok.rd {x:Qe} {w:World} (h:x.ok w):x.rd w:=Qm.ok.rd h
theorem Qm.ok.keep {x:Qm} {w w':World} {S:Nat->Prop} (h:x.ok w) (hk:Kp S w w') (hS: ∀g,x.sl.ownBlock=some g-> ¬S g):x.ok w':=Own.keep h hk hS
theorem Qm.ok.apart {x:Qm} {w w':World} {S:Nat->Prop} (h:x.ok w) (hk:Kp S w w') (hS: ∀g,S g-> ∀cur,w.heap[g]?≠some (.cells cur 5 (0,0))):x.ok w':=
 h.keep hk λg hg hs=>by
  obtain ⟨cur,hc⟩:=Own.type h g hg;exact hS g hs cur hc
structure Zs where
 b:Nat
 ra:Option Addr
 rc:Nat
 R:List Qm
def Zs.row (c:Zs):Value:= .slice c.ra c.R.length c.rc
def Zs.vs (c:Zs):List Qo:=c.R.map Qm.v
structure Xr (t:TypeId) (w:World) (c:Zs):Prop where
 cell:w.heap[c.b]?=some (.cells #[c.row] t (0,0))
 own:Own w 44 6 c.row c.R.length (c.R.flatMap Qv)
 vals: ∀x∈c.R,x.ok w
def Qrx (c:Zs):Nat->Prop:=λk=>k=c.b\/c.row.ownBlock=some k\/ ∃x∈c.R,x.sl.ownBlock=some k
section
variable {t:TypeId} {w w':World} {c c':Zs}
theorem Xr.keep {S:Nat->Prop} (h:Xr t w c) (hk:Kp S w w') (hS: ∀k,Qrx c k-> ¬S k):Xr t w' c:=
 ⟨hk.get h.cell (hS _ (.inl rfl)),h.own.keep hk λg hg=>hS g (.inr (.inl hg)),λx hx=>(h.vals x hx).keep hk λg hg=>hS g (.inr (.inr ⟨x,hx,hg⟩))⟩
theorem Xr.Q9 (h:Xr t w c) (hk:Kp No w w'):Xr t w' c:=h.keep hk λ_ _ x=>x
theorem Xr.lt (h:Xr t w c): ∀k,Qrx c k->k<w.heap.size:=by
 rintro k (rfl|hk|⟨x,hx,hk⟩)
 ·exact Q7 h.cell
 ·exact h.own.lt k hk
 ·exact Own.lt (h.vals x hx) k hk
theorem Xr.row_ne (h:Xr t w c) (ht:t≠44) {g:Nat} (hg:c.row.ownBlock=some g):g≠c.b:=by
 obtain ⟨cur,hc⟩:=h.own.type g hg;exact Qd hc h.cell (λe=>ht e.symm)
theorem Xr.cells (h:Xr t w c):(∀W,Kp No w W->W.cell? ⟨c.b,0,none⟩=some c.row)/\(∀W,Kp No w W->W.frozen? ⟨c.b,0,none⟩=false):=
 ⟨λW hW=>by rw [Q4 (h.Q9 hW).cell];rfl,λW hW=>Qh (h.Q9 hW).cell 0⟩
end
end Go.Proofs.YtgnkmjeoaoongaaGreatDoor
