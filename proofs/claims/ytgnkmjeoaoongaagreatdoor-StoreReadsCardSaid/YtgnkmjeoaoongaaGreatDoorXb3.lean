/-
  SRec, SVer, WDec, WRd, Wide, SMem.
-/
import Derived.Test.YtgnkmjeoaoongaaGreatDoorXb1
import Derived.Deep.MidRow
namespace Go.Mer
open Go
def Jg (p:List UInt8):List UInt8:=Ql p.length++p
structure Qf where
 m:Int
 c:Int
 o:Int
 val:List UInt8
 gone:Bool
 ttl:Int
structure Qx where
 o:Int
 seq:Int
 key:ByteArray
 v:Qf
def Zx (v:Qf):Bool:=Jp v.m v.c&&decide (0<=v.o/\v.o<5/\v.val.length<=1024/\0<=v.ttl/\v.ttl<=281474976710655/\(v.gone=true->v.val.length=0/\v.ttl=0))
def Jv (r:Qx):Bool:=Zx r.v&&decide (r.v.o=r.o/\1<=r.seq/\r.seq<=1099511627776/\1<=r.key.size/\r.key.size<=64)
theorem Zo {v:Qf}:Zx v=true↔(0<=v.m/\v.m<=281474976710655/\0<=v.c/\v.c<=65535)/\0<=v.o/\v.o<5/\v.val.length<=1024/\0<=v.ttl/\v.ttl<=281474976710655/\(v.gone=true->v.val.length=0/\v.ttl=0):=by
 unfold Zx;rw [Bool.and_eq_true,Zh,decide_eq_true_iff]
theorem Yw {r:Qx}:Jv r=true↔Zx r.v=true/\r.v.o=r.o/\1<=r.seq/\r.seq<=1099511627776/\1<=r.key.size/\r.key.size<=64:=by
 unfold Jv;rw [Bool.and_eq_true,decide_eq_true_iff]
def Mk (b:Bool):Nat:=if b=true then 1 else 0
def U6 (r:Qx):List UInt8:=
 Ql r.o.toNat++(Ql r.seq.toNat++(Jg r.key.data.toList++(Ql r.v.m.toNat++(Ql r.v.c.toNat++(Ql (Mk r.v.gone)++(Ql r.v.ttl.toNat++Jg r.v.val))))))
theorem Xz (k:ByteArray):k.data.toList.length=k.size:=rfl
theorem Uo {r:Qx} (h:Jv r=true):(U6 r).length<=1120:=by
 obtain ⟨hv,e1,e2,e3,e4,e5⟩:=Yw.1 h;obtain ⟨⟨m1,m2,c1,c2⟩,o1,o2,v1,t1,t2,_⟩:=Zo.1 hv;have a1:=Ju 0 r.o.toNat (by rw [<-e1];simp;omega);have a2:=Ju 5 r.seq.toNat (by simp;omega);have a3:=Ju 0 r.key.data.toList.length (by rw [Xz];simp;omega);have a4:=Ju 6 r.v.m.toNat (by simp;omega);have a5:=Ju 2 r.v.c.toNat (by simp;omega);have a6:=Ju 0 (Mk r.v.gone) (by unfold Mk;split<;>decide);have a7:=Ju 6 r.v.ttl.toNat (by simp;omega);have a8:=Ju 1 r.v.val.length (by simp;omega);have a9:=Xz r.key;unfold U6 Jg;simp only [List.length_append];omega
def Vb (l:List Qx):List UInt8:=l.flatMap λr=>Jg (U6 r)
def Eu (l:List Qx):List UInt8:=Ql l.length++Vb l
theorem Kg {l:List Qx} (h: ∀r∈l,Jv r=true):(Vb l).length<=l.length*1122:=by
 unfold Vb;induction l with
 |nil=>exact Nat.le_refl _
 |cons r l ih=>
  have h1:=Uo (h r (List.mem_cons_self ..));have h2:=ih λx hx=>h x (List.mem_cons_of_mem _ hx);have h3:=Ju 1 (U6 r).length (by simp;omega);rw [List.flatMap_cons,List.length_append,List.length_cons];unfold Jg at h2⊢;rw [List.length_append];omega
theorem Mr {l:List Qx} (h: ∀r∈l,Jv r=true) (hl:l.length<=64):(Eu l).length<=71809:=by
 have h1:=Kg h;have h2:=Ju 0 l.length (by simp;omega);unfold Eu;rw [List.length_append];omega
def Z6 (m c n d:Int):Bool:=decide (m<n\/(m=n/\c<d))
theorem L6 {m c n d:Int}:Z6 m c n d=true↔(m<n\/(m=n/\c<d)):=decide_eq_true_iff
theorem Ed {m c n d:Int}:Z6 m c n d=false↔ ¬(m<n\/(m=n/\c<d)):=decide_eq_false_iff_not
def C5 (a b:Qf):Bool:=decide (a.m<b.m\/(a.m=b.m/\(a.c<b.c\/(a.c=b.c/\a.o<b.o))))
theorem Ld {a b:Qf}:C5 a b=true↔(a.m<b.m\/(a.m=b.m/\(a.c<b.c\/(a.c=b.c/\a.o<b.o)))):=decide_eq_true_iff
theorem Qmw {a b:Qf}:C5 a b=false↔ ¬(a.m<b.m\/(a.m=b.m/\(a.c<b.c\/(a.c=b.c/\a.o<b.o)))):=decide_eq_false_iff_not
theorem Ip {a b c:Qf} (h:C5 a b=true) (h':C5 b c=true):C5 a c=true:=by
 rw [Ld] at*;omega
theorem Qim {a b:Qf} (h:C5 a b=false) (h':C5 b a=false):a.m=b.m/\a.c=b.c/\a.o=b.o:=by
 rw [Qmw] at*;omega
def Li (l:List Qf):Prop:=l.Pairwise λa b=>C5 a b=true
def Fm (l:List Qf) (v:Qf):Nat:=(l.takeWhile λx=>C5 x v).length
def Yu (l:List Qf) (v:Qf):Bool:=match l[Fm l v]? with|some x=>!C5 v x|none=>false
def Yd (l:List Qf) (v:Qf):List Qf:=l.take (Fm l v)++v::l.drop (Fm l v)
theorem Ee {α:Type} (p:α->Bool): ∀l:List α,l.take (l.takeWhile p).length=l.takeWhile p:=by
 intro l;induction l with
 |nil=>rfl
 |cons x l ih=>
  rw [List.takeWhile_cons];split
  ·rw [List.length_cons,List.take_succ_cons,ih]
  ·rfl
theorem L9 {α:Type} (p:α->Bool) (l:List α):(l.takeWhile p).length<=l.length:=by
 have:=congrArg List.length (Ee p l);rw [List.length_take] at this;omega
theorem N0 {α:Type} {p:α->Bool} {l:List α}: ∀{x:α},x∈l.takeWhile p->p x=true:=by
 intro x hx;induction l with
 |nil=>exact absurd hx List.not_mem_nil
 |cons y l ih=>
  rw [List.takeWhile_cons] at hx;split at hx
  ·next hy=>
   rcases List.mem_cons.1 hx with rfl|hx
   ·exact hy
   ·exact ih hx
  ·exact absurd hx List.not_mem_nil
theorem Ud {α:Type} {p:α->Bool}: ∀{l:List α} {x:α},l[(l.takeWhile p).length]?=some x->p x=false:=by
 intro l;induction l with
 |nil=>intro x h;simp at h
 |cons y l ih=>
  intro x h;rw [List.takeWhile_cons] at h;split at h
  ·rw [List.length_cons,List.getElem?_cons_succ] at h;exact ih h
  ·next hy=>
   rw [List.length_nil,List.getElem?_cons_zero] at h;injection h with h;subst h;simpa using hy
theorem Cf (l:List Qf) (v:Qf):Fm l v<=l.length:=L9 _ _
theorem Nq {l:List Qf} {v x:Qf} (h:x∈l.take (Fm l v)):C5 x v=true:=by
 unfold Fm at h;rw [Ee] at h;exact N0 (p:=λx=>C5 x v) h
theorem A7 {l:List Qf} {v:Qf} (hs:Li l) (hh:Yu l v=false) {x:Qf} (h:x∈l.drop (Fm l v)):C5 v x=true:=by
 obtain ⟨i,hi,rfl⟩:=List.mem_iff_getElem.1 h;rw [List.length_drop] at hi;have h0:l[Fm l v]?=some l[Fm l v]:=List.getElem?_eq_getElem (by omega)
 have hv:C5 v l[Fm l v]=true:=by
  unfold Yu at hh;rw [h0] at hh;simpa using hh
 rw [List.getElem_drop];rcases Nat.eq_zero_or_pos i with rfl|hp
 ·exact hv
 ·exact Ip hv (List.pairwise_iff_getElem.1 hs _ _ (by omega) (by omega) (by omega))
theorem On {l:List Qf} {v:Qf} (hs:Li l) (hh:Yu l v=false):Li (Yd l v):=by
 unfold Li Yd;rw [List.pairwise_append,List.pairwise_cons];refine ⟨hs.sublist (List.take_sublist _ _),⟨λx hx=>A7 hs hh hx,hs.sublist (List.drop_sublist _ _)⟩,λx hx y hy=>?_⟩;rcases List.mem_cons.1 hy with rfl|hy
 ·exact Nq hx
 ·exact Ip (Nq hx) (A7 hs hh hy)
theorem Q5w {l:List Qf} {v x:Qf}:x∈Yd l v↔x=v\/x∈l:=by
 unfold Yd;rw [List.mem_append,List.mem_cons];constructor
 ·rintro (h|h|h)
  ·exact .inr (List.mem_of_mem_take h)
  ·exact .inl h
  ·exact .inr (List.mem_of_mem_drop h)
 ·rintro (h|h)
  ·exact .inr (.inl h)
  ·rw [<-List.take_append_drop (Fm l v) l] at h;rcases List.mem_append.1 h with h|h
   ·exact .inl h
   ·exact .inr (.inr h)
theorem Va (l:List Qf) (v:Qf):(Yd l v).length=l.length+1:=by
 have:=Cf l v;unfold Yd;rw [List.length_append,List.length_cons,List.length_take,List.length_drop];omega
theorem Qcc {l:List Qf} {v:Qf} (h: ∀x∈l,¬(x.m=v.m/\x.c=v.c/\x.o=v.o)):Yu l v=false:=by
 unfold Yu;split
 ·next x hx=>
  have h1:=Ud (p:=λx=>C5 x v) hx;have hm:x∈l:=List.mem_of_getElem? hx;cases hv:C5 v x with
  |true=>rfl
  |false=>exact absurd (Qim h1 hv) (h x hm)
 ·rfl
def Vr (v:Qf) (m c:Int):Bool:=!Z6 m c v.m v.c&&(!v.gone&&(v.ttl==0||decide (m-v.m<v.ttl)))
def Z0 (l:List Qf) (m c:Int):Nat:=(l.takeWhile λx=>!Z6 m c x.m x.c).length
def Lw (l:List Qf) (m c:Int):Option Qf:=if Z0 l m c=0 then none else l[Z0 l m c-1]?
def U1 (l:List Qf) (m c:Int):Option (List UInt8):=match Lw l m c with|none=>none|some v=>if Vr v m c=true then some v.val else none
def Jb (l:List Qf) (m c:Int):Nat:=match Lw l m c with|none=>0|some v=>if Vr v m c=true then Z0 l m c-1 else Z0 l m c
def Zl (l:List Qf) (m c:Int):List Qf:=l.drop (Jb l m c)
theorem Gu (l:List Qf) (m c:Int):Z0 l m c<=l.length:=L9 _ _
theorem Q6f (l:List Qf) (m c:Int):Jb l m c<=l.length:=by
 have:=Gu l m c;unfold Jb;split
 ·exact Nat.zero_le _
 ·split<;>omega
theorem Q3a {l:List Qf} (m c:Int) (hs:Li l):Li (Zl l m c):=hs.sublist (List.drop_sublist _ _)
theorem Qcy {l:List Qf} {m c:Int} {x:Qf} (h:x∈Zl l m c):x∈l:=List.mem_of_mem_drop h
theorem Ki (l:List Qf) (m c:Int):(Zl l m c).length=l.length-Jb l m c:=List.length_drop
theorem Nu {l:List Qf} {m c:Int} {i:Nat} {x:Qf} (hi:i<Z0 l m c) (hx:l[i]?=some x):Z6 m c x.m x.c=false:=by
 have h1:x∈l.take (Z0 l m c):=by
  refine List.mem_of_getElem? (i:=i) ?_;rw [List.getElem?_take_of_lt hi];exact hx
 unfold Z0 at h1;rw [Ee] at h1;simpa using N0 (p:=λx:Qf=>!Z6 m c x.m x.c) h1
theorem Q8z {l:List Qf} {m c:Int} (hs:Li l) {i:Nat} {x:Qf} (hi:Z0 l m c<=i) (hx:l[i]?=some x):Z6 m c x.m x.c=true:=by
 have hil:=(List.getElem?_eq_some_iff.1 hx).1;have h0:l[Z0 l m c]?=some l[Z0 l m c]:=List.getElem?_eq_getElem (by omega);have h1:=Ud (p:=λx:Qf=>!Z6 m c x.m x.c) h0;have h1:Z6 m c l[Z0 l m c].m l[Z0 l m c].c=true:=by simpa using h1
 rcases Nat.lt_or_ge (Z0 l m c) i with hlt|hge
 ·have h2:=List.pairwise_iff_getElem.1 hs _ _ (by omega) hil hlt;rw [(List.getElem?_eq_some_iff.1 hx).2] at h2;rw [Ld] at h2;rw [L6] at h1⊢;omega
 ·have:i=Z0 l m c:=by omega
  subst this;rw [h0] at hx;injection hx with hx;rw [<-hx];exact h1
end Go.Mer
namespace Go.Proofs.YtgnkmjeoaoongaaGreatDoor
open Go.RowKit Go.Mer
theorem Oy (w:World) (b:Nat) (a:Option Addr) (c:Nat) (l:List UInt8) (hb:w.heap[b]?=some (.cells #[.slice a l.length c] 121 (0,0))) (hR:Rd w w.heap.size a (u8s l)) (hl:l.length<=140737488355328):
  Calls Tryz.prog 61 #[.pointer (some ⟨b,0,none⟩)] w (Q9m w l):=by
 have hcl:=D4 a c l w.heap.size w hR hl;have c0:=Q0 hb 0;have hbl:=Q3 hb;simp at c0
 obtain ⟨n,hn⟩: ∃n,n=l.length:=⟨_,rfl⟩;rw [<-hn] at hcl c0;have Q3g:=zz hcl;have HN:=zz hn;clear hcl hb hR hl hn;go_enter Tryz.func61,Tryz.ntmps61
 go_wp2_with fail
 have hc:=Q3g.out;with_reducible refine hc.mono ?_
 rintro e w1 ⟨v,rfl,ho,hk,hf⟩;obtain ⟨_,a1,c1,rfl,_⟩:=id ho;have Zv:=zz (show Q9m w l (.returned (.slice a1 n c1)) w1 from ⟨a1,c1,by rw [<-show n=_ from HN],by rw [<-show n=_ from HN];exact ho,by rw [<-show n=_ from HN];exact hf,hk⟩);clear ho hk hf hc;go_wp2_with fail
 go_ret
 exact Zv.out
end Go.Proofs.YtgnkmjeoaoongaaGreatDoor
namespace Go.Mer
open Go Go.RowKit
variable {P:Program}
theorem Qe {ops:Array Oper} {rest:List Oper} {op:Oper} {a:Act} {w:World} {Q:Exit->Act->World->Prop} (hgd:op.guard=none) (ty:TypeId) (x:Operand) (ho:op.op= .load ty x)
  (b o:Nat) (hx:a.eval x= .pointer (some ⟨b,o,none⟩)) (cs:List Value) (d:TypeDesc) (hc:Hid (w.rangeAt b o cs))
  (hu:P.underlying ty=some d) (hd:d.isRow=true) (hi:(P.info? ty).map (·.size)=some cs.length)
  (h:wpList P ops Q rest (a.put op.dst (.agg cs.toArray)) w):wpList P ops Q (op::rest) a w:=wpList_load_mid hgd ty x ho b o hx cs d hc.out hu hd hi h
theorem Qy {ops:Array Oper} {rest:List Oper} {o:Oper} {a:Act} {W:World} {Q:Exit->Act->World->Prop} (hgd:o.guard=none) (ty:TypeId) (x y:Operand) (ho:o.op= .store ty x y)
  (g:Nat) (hg:g=W.heap.size) (cells old:Array Value) (t:TypeId) (hx:a.eval x= .pointer (some ⟨g,0,none⟩)) (hy:a.eval y= .agg cells)
  (hi:(P.info? ty).map (·.size)=some cells.size) (hold:old.size=cells.size) (h1:cells.toList.all (·.oneCell')=true)
  (h:wpList P ops Q rest (a.put o.dst undef) (W.alloc (.cells cells t))):wpList P ops Q (o::rest) a (W.alloc (.cells old t)):=by
 subst hg;refine wpList_store_row hgd ty x y ho _ cells hx hy t old (heap_alloc_new W _) hi hold (by simpa using h1) ?_;rw [World.setRow_alloc_new];exact h
theorem Q9 {op:Oper} {a:Act} {w:World} (ty:TypeId) (x:Operand) (ho:op.op= .load ty x) (b o:Nat) (hx:a.eval x= .pointer (some ⟨b,o,none⟩)) (cs:List Value) (d:TypeDesc) (hc:w.rangeAt b o cs)
  (hu:P.underlying ty=some d) (hd:d.isRow=true) (hi:(P.info? ty).map (·.size)=some cs.length):(execOp a.eval op).run P w= .ok (.value (.agg cs.toArray)) w:=by
 unfold execOp;simp only [ho,hx,Instr.loadAt,Instr.sureAddr,Sem.run_bind,Sem.run_pure,Result.andThen_ok,run_loadVar_mid w b o ty cs d hc hu hd hi]
theorem Zi {ops:Array Oper} {rest:List Oper} {o:Oper} {a:Act} {w:World} {Q:Exit->Act->World->Prop} (hgd:o.guard=none) (ty:TypeId) (x y:Operand) (ho:o.op= .store ty x y)
  (g:Nat) (cells:Array Value) (hx:a.eval x= .pointer (some ⟨g,0,none⟩)) (hy:a.eval y= .agg cells)
  (t:TypeId) (old:Array Value) (hg:Hid (w.heap[g]?=some (.cells old t (0,0)))) (hi:(P.info? ty).map (·.size)=some cells.size)
  (hold:old.size=cells.size) (h1:cells.toList.all (·.oneCell')=true)
  (h:wpList P ops Q rest (a.put o.dst undef) (w.setRow g cells)):wpList P ops Q (o::rest) a w:=
 wpList_store_row hgd ty x y ho g cells hx hy t old hg.out hi hold (by simpa using h1) h
theorem Kp.setRow {S:Nat->Prop} {a b:World} (h:Kp S a b) {g:Nat} (hp:S g\/a.heap.size<=g) (cs:Array Value):Kp S a (b.setRow g cs):=
 h.trans (T:=One g) ⟨rfl,rfl,rfl,by simp [World.setRow],λk _ hn=>by
   show (b.heap.modify g _)[k]?=_
   rw [Array.getElem?_modify,if_neg (λe=>hn e.symm)]⟩
  (λi hi hT=>by
   rw [show i=g from hT] at hi⊢;rcases hp with hp|hp
   ·exact hp
   ·omega)
theorem U7 {w:World} {g:Nat} {cs old:Array Value} {t:TypeId} (h:w.heap[g]?=some (.cells old t (0,0))):(w.setRow g cs).heap[g]?=some (.cells cs t (0,0)):=by
 show (w.heap.modify g _)[g]?=_
 rw [Array.getElem?_modify,if_pos rfl,h];rfl
theorem Z3 {ops:Array Oper} {ks:List Nat} {S:World->Prop} {Q:Exit->Act->World->Prop} {i:Nat} {o:Oper} {rest:List Nat} {a:Act} {w:World} (ho:ops[i]?=some o) (hk:ks.getD i 2=2)
  (hg:Region.wanted o (yielded ops a.tmps)=false) {A:Act} (hA:a.put o.dst undef=A) (h: ∀n,S (w.drewN n)/\J1 P ops ks S Q rest A (w.drewN n)):J1 P ops ks S Q (i::rest) a w:=by
 subst hA;refine Q4 ho hk λn=>?_;unfold wpList;rw [if_neg (by rw [hg];decide)];exact ⟨rfl,h n⟩
theorem Qb {W:World} {b:Nat} {cs:Array Value} {t:TypeId} (h:W.heap[b]?=some (.cells cs t (0,0))) (o n:Nat):W.rangeAt b o ((cs.toList.drop o).take n):=λj v hv=>by
 rw [Q0 h];rw [List.getElem?_take] at hv;split at hv
 ·rw [List.getElem?_drop] at hv;simpa using hv
 ·cases hv
end Go.Mer
namespace Go.Proofs.YtgnkmjeoaoongaaGreatDoor
open Go.RowKit Go.Mer
structure Qd where
 v:Qf
 a:Option Addr
 cap:Nat
structure Qa where
 r:Qx
 a:Option Addr
 cap:Nat
def Qd.sl (x:Qd):Value:= .slice x.a x.v.val.length x.cap
def Qa.sl (x:Qa):Value:= .slice x.a x.r.v.val.length x.cap
def Qa.Q72 (x:Qa):Qd:=⟨x.r.v,x.a,x.cap⟩
def Qg (x:Qd):List Value:=[.int .i64 x.v.m, .int .i64 x.v.c, .int .i64 x.v.o,x.sl, .bool x.v.gone, .int .i64 x.v.ttl]
def recC (x:Qa):List Value:=[.int .i64 x.r.o, .int .i64 x.r.seq, .string x.r.key, .int .i64 x.r.v.m, .int .i64 x.r.v.c, .int .i64 x.r.v.o,x.sl, .bool x.r.v.gone, .int .i64 x.r.v.ttl]
theorem J8 (x:Qd):(Qg x).length=6:=rfl
theorem Ad (x:Qa):(recC x).length=9:=rfl
theorem Yg (x:Qd): ∀u∈Qg x,u.oneCell'=true:=by
 intro u hu;simp only [Qg,Qd.sl,List.mem_cons,List.not_mem_nil,or_false] at hu;rcases hu with rfl|rfl|rfl|rfl|rfl|rfl<;>rfl
theorem Mv (x:Qa): ∀u∈recC x,u.oneCell'=true:=by
 intro u hu;simp only [recC,Qa.sl,List.mem_cons,List.not_mem_nil,or_false] at hu;rcases hu with rfl|rfl|rfl|rfl|rfl|rfl|rfl|rfl|rfl<;>rfl
theorem Vo:(Tryz.prog.info? 44).map (λi=>((i.zero.map λz=>z.cells.size),i.size,i.bytes))=some (some 6,6,64):=by kernel_rfl
theorem C8:(Tryz.prog.info? 46).map (λi=>((i.zero.map λz=>z.cells.size),i.size,i.bytes))=some (some 9,9,96):=by kernel_rfl
def Qd.rd (x:Qd) (w:World):Prop:=Rd w w.heap.size x.a (u8s x.v.val)/\x.v.val.length<=x.cap/\x.cap<=maxLen
def Qa.rd (x:Qa) (w:World):Prop:=x.Q72.rd w
def Qd.ok (x:Qd) (w:World):Prop:=Own w 5 1 x.sl x.v.val.length (u8s x.v.val)
def Qa.ok (x:Qa) (w:World):Prop:=x.Q72.ok w
theorem Qd.ok.rd {x:Qd} {w:World} (h:x.ok w):x.rd w:=by
 obtain ⟨_,a,c,e,h1,h2,_⟩:=id h;unfold Qd.sl at e;injection e with e1 _ e3;exact ⟨Own.rd' h,by rw [e3];exact h1,by rw [e3];exact h2⟩
theorem Qa.ok.rd {x:Qa} {w:World} (h:x.ok w):x.rd w:=Qd.ok.rd h
theorem Qd.ok.keep {x:Qd} {w w':World} {S:Nat->Prop} (h:x.ok w) (hk:Kp S w w') (hS: ∀g,x.sl.ownBlock=some g-> ¬S g):x.ok w':=Own.keep h hk hS
theorem Qd.ok.apart {x:Qd} {w w':World} {S:Nat->Prop} (h:x.ok w) (hk:Kp S w w') (hS: ∀g,S g-> ∀cur,w.heap[g]?≠some (.cells cur 5 (0,0))):x.ok w':=
 h.keep hk λg hg hs=>by
  obtain ⟨cur,hc⟩:=Own.type h g hg;exact hS g hs cur hc
structure Ja where
 b:Nat
 ra:Option Addr
 rc:Nat
 R:List Qd
def Ja.row (c:Ja):Value:= .slice c.ra c.R.length c.rc
def Ja.vs (c:Ja):List Qf:=c.R.map Qd.v
structure Y7 (t:TypeId) (w:World) (c:Ja):Prop where
 cell:w.heap[c.b]?=some (.cells #[c.row] t (0,0))
 own:Own w 44 6 c.row c.R.length (c.R.flatMap Qg)
 vals: ∀x∈c.R,x.ok w
def Qdo (c:Ja):Nat->Prop:=λk=>k=c.b\/c.row.ownBlock=some k\/ ∃x∈c.R,x.sl.ownBlock=some k
section
variable {t:TypeId} {w w':World} {c c':Ja}
theorem Y7.keep {S:Nat->Prop} (h:Y7 t w c) (hk:Kp S w w') (hS: ∀k,Qdo c k-> ¬S k):Y7 t w' c:=
 ⟨hk.get h.cell (hS _ (.inl rfl)),h.own.keep hk λg hg=>hS g (.inr (.inl hg)),λx hx=>(h.vals x hx).keep hk λg hg=>hS g (.inr (.inr ⟨x,hx,hg⟩))⟩
theorem Y7.Q5 (h:Y7 t w c) (hk:Kp No w w'):Y7 t w' c:=h.keep hk λ_ _ x=>x
theorem Y7.lt (h:Y7 t w c): ∀k,Qdo c k->k<w.heap.size:=by
 rintro k (rfl|hk|⟨x,hx,hk⟩)
 ·exact Q3 h.cell
 ·exact h.own.lt k hk
 ·exact Own.lt (h.vals x hx) k hk
theorem Y7.row_ne (h:Y7 t w c) (ht:t≠44) {g:Nat} (hg:c.row.ownBlock=some g):g≠c.b:=by
 obtain ⟨cur,hc⟩:=h.own.type g hg;exact Q7 hc h.cell (λe=>ht e.symm)
theorem Y7.cells (h:Y7 t w c):(∀W,Kp No w W->W.cell? ⟨c.b,0,none⟩=some c.row)/\(∀W,Kp No w W->W.frozen? ⟨c.b,0,none⟩=false):=
 ⟨λW hW=>by rw [Q0 (h.Q5 hW).cell];rfl,λW hW=>Qc (h.Q5 hW).cell 0⟩
end
end Go.Proofs.YtgnkmjeoaoongaaGreatDoor
