/-
  SWOpn, WNext, SNext, Good, SArgs, SRows.
-/
import Derived.Test.YtgnkmjeoaoongaaGreatDoorXd9
set_option maxRecDepth 100000
set_option maxHeartbeats 4000000
namespace Go.Proofs.YtgnkmjeoaoongaaGreatDoor
open Go.RowKit Go.Mer
theorem Bw {w:World} {d:Nat} {ds:Qu} {F:Nat->Prop} (hD:Zd w d ds F) (hds:ds.files=[]):
  Calls Tryz.prog 95 #[.pointer (some ⟨d,0,none⟩)] w λe w'=> ∃a c,e= .returned (.slice a 0 c)/\Kp No w w':=by
 refine (Qb7 w d ds F hD (by rw [hds];simp)).mono ?_;rintro e w' ⟨ss,a,c,rfl,hp,_,hk⟩;rw [hds,List.map_nil] at hp;have:ss=[]:=hp.eq_nil;subst this;exact ⟨a,c,by simp [Ev],hk⟩
theorem U4 (P:ByteArray):(Zp P 0).size=P.size+2:=by
 show ((P.data.toList++(Lib.decDigits 0++[46])).toArray).size=_
 have h1:(Lib.decDigits 0).length=1:=by
  rw [V6 (by decide)];rfl
 simp [h1]
theorem Qxg {w:World} {l d:Nat} {P:ByteArray} (h:w.heap[l]?=some (.cells #[.pointer (some ⟨d,0,none⟩), .string P, .slice none 0 0, .slice none 0 0, .int .i64 0, .bool false] 241 (0,0))):Em w l d P st0 (One l):=
 ⟨.slice none 0 0, .slice none 0 0,[],⟨h,Own.nil _ _ _,Own.nil _ _ _,λ_ h=>(by cases h)⟩,rfl,(λk hk=>by
  rcases hk with h|h|h|⟨_,h,_⟩
  ·exact h
  ·cases h
  ·cases h
  ·cases h),(λk hk=>by
  rw [show k=l from hk];exact Q3 h)⟩
theorem Qmq {wx:World} {l b0 b1:Nat} (hp:wx.cell? ⟨b0,0,none⟩=some (.pointer (some ⟨l,0,none⟩))) (he:wx.cell? ⟨b1,0,none⟩=some (.int .i64 0)) (tmps:Array Value) (h4:tmps.getD 4 undef= .pointer (some ⟨b0,0,none⟩)) (h5:tmps.getD 5 undef= .pointer (some ⟨b1,0,none⟩)) (R:Ending->World->Prop)
  (hR:R (.returned (.tuple #[.pointer (some ⟨l,0,none⟩), .int .i64 0])) wx):
  Leaves Tryz.prog Tryz.f99 tmps R [{target:= .fn (.func 155) #[.pointer (some ⟨b1,0,none⟩), .pointer (some ⟨b0,0,none⟩)],args:= #[]}] .returning wx:=by
 refine leaves_cons (f:=155) (args:= #[.pointer (some ⟨b1,0,none⟩), .pointer (some ⟨b0,0,none⟩)]) (by simp) (by simp [go_sem]) ?_;refine (Q7r ⟨b1,0,none⟩ ⟨b0,0,none⟩ wx).mono ?_;rintro e u' w'' ⟨rfl,rfl,rfl⟩;refine ⟨.tuple #[.pointer (some ⟨l,0,none⟩), .int .i64 0],?_,hR⟩;have h4':tmps[4]?.getD undef= .pointer (some ⟨b0,0,none⟩):=by rw [<-h4,Array.getD_eq_getD_getElem?]
 have h5':tmps[5]?.getD undef= .pointer (some ⟨b1,0,none⟩):=by rw [<-h5,Array.getD_eq_getD_getElem?]
 simp [results,Tryz.results99,go_sem,h4',h5',hp,he]
theorem Q93 {w:World} {d:Nat} {P:ByteArray} {ds:Qu} {F:Nat->Prop} (hD:Zd w d ds F) (hds:ds.files=[]) (hP2:P.size<=20):
  Calls Tryz.prog 99 #[.pointer (some ⟨d,0,none⟩), .string (Zp P 0)] w λe w'=> ∃l F' G',e= .returned (.tuple #[.pointer (some ⟨l,0,none⟩), .int .i64 0])/\Lt w' d l (Zp P 0) ds st0 F' G'/\Qv F F' w/\(∀k,G' k->w.heap.size<=k)/\Kp F w w':=by
 have hmf: ∀(fn:Fn) (first cap:Array Value) (w:World),(Instr.makeFunc fn first cap).run Tryz.prog w= .ok (.func fn first cap) w:=λ_ _ _ _=>rfl;have hsz:=U4 P;obtain ⟨Q,hQ⟩: ∃Q,Q=Zp P 0:=⟨_,rfl⟩;rw [<-hQ] at hsz⊢;have e1:decide ((Q.size:Int)<1)=false:=by rw [decide_eq_false_iff_not];omega
 have e2:decide ((50:Int)<(Q.size:Int))=false:=by rw [decide_eq_false_iff_not];omega
 have HD:=zz hD;have Qay:=zz hds;clear hD hds hQ hsz hP2;go_enter_defers Tryz.func99,Tryz.ntmps99
 go_upto_region 6 with fail
 obtain ⟨b0,hb0⟩: ∃b0,b0=w.heap.size:=⟨_,rfl⟩;rw [<-hb0];obtain ⟨W3,hW3⟩: ∃W,W=((w.alloc (.cells #[.pointer (some ⟨b0+1+1,0,none⟩)] 127)).alloc (.cells #[.int .i64 0] 47)).alloc (.cells #[.pointer (some ⟨d,0,none⟩), .string Q, .slice none 0 0, .slice none 0 0, .int .i64 0, .bool false] 241):=⟨_,rfl⟩;rw [<-hW3];have k3:Kp No w W3:=by rw [hW3];exact (((Kp.refl No w).alloc _).alloc _).alloc _
 have hs3:W3.heap.size=b0+1+1+1:=by rw [hW3,hb0];simp
 have h3l:W3.heap[b0+1+1]?=some (.cells #[.pointer (some ⟨d,0,none⟩), .string Q, .slice none 0 0, .slice none 0 0, .int .i64 0, .bool false] 241 (0,0)):=by
  rw [hW3,hb0];have:=heap_alloc_new ((w.alloc (.cells #[.pointer (some ⟨w.heap.size+1+1,0,none⟩)] 127)).alloc (.cells #[.int .i64 0] 47)) (.cells #[.pointer (some ⟨d,0,none⟩), .string Q, .slice none 0 0, .slice none 0 0, .int .i64 0, .bool false] 241 (0,0));simpa using this
 have Qy3:W3.heap[b0]?=some (.cells #[.pointer (some ⟨b0+1+1,0,none⟩)] 127 (0,0)):=by
  rw [hW3,hb0];exact J6 (J6 (heap_alloc_new w _) _) _
 have J0g:W3.heap[b0+1]?=some (.cells #[.int .i64 0] 47 (0,0)):=by
  rw [hW3,hb0];exact J6 ((congrArg (λk=>((w.alloc _).alloc _).heap[k]?) (by simp)).trans (heap_alloc_new (w.alloc _) _)) _
 obtain ⟨b1,hb1⟩: ∃b1,b1=b0+1:=⟨_,rfl⟩;rw [<-hb1] at h3l Qy3 J0g hs3⊢;obtain ⟨l,hl⟩: ∃l,l=b1+1:=⟨_,rfl⟩;rw [<-hl] at h3l Qy3 hs3⊢;have HB:=zz (And.intro hb0 (And.intro hb1 hl));have H3:=zz (And.intro k3 (And.intro Qy3 (And.intro J0g h3l)));clear hb0 hb1 hl k3 hs3 h3l Qy3 J0g hW3;go_wp2_with fail
 refine (Bw (HD.out.Q5 H3.out.1) Qay.out).mono ?_;rintro e w4 ⟨na,nc,rfl,k4⟩;have H4:=zz (And.intro (H3.out.1.trans_same k4) (And.intro (k4.get H3.out.2.1 λx=>x) (And.intro (k4.get H3.out.2.2.1 λx=>x) (k4.get H3.out.2.2.2 λx=>x))));clear k4;have hnb:b0≠b1/\b0≠l/\b1≠l/\l≠b0/\l≠b1:=by have:=HB.out;omega
 have Ds:=zz hnb;have n01: ¬b0=b1:=hnb.1;have n10: ¬b1=b0:=λe=>n01 e.symm;clear hnb;go_wp2_with fail
 go_loop [6,33] (λa z=>a= .slice none 0 0/\z= .int .i64 0) (λ_ _=>0)
 case atStart=>exact ⟨rfl,rfl⟩
 case round=>
  obtain ⟨rfl,rfl⟩:=hrel;go_wp2_with fail
  go_loop [47] (λz=>z= .int .i64 0) (λ_=>0)
  case atStart=>rfl
  case round=>
   obtain rfl:=hrel;have p0:w4.cell? ⟨b0,0,none⟩=some (.pointer (some ⟨l,0,none⟩)):=Q0 H4.out.2.1 0;have p2:w4.cell? ⟨l,2,none⟩=some (.slice none 0 0):=Q0 H4.out.2.2.2 2;have z0:=Q3 H4.out.2.1;have zl:=Q3 H4.out.2.2.2;go_wp2_with fail
   go_loop [67] (λz=>z= .int .i64 0) (λ_=>0)
   case atStart=>rfl
   case round=>
    obtain rfl:=hrel;have dp: ∀W,Kp No w4 W->W.cell? ⟨b0,0,none⟩=some (.pointer (some ⟨l,0,none⟩)):=λW hW=>Q0 (hW.get H4.out.2.1 λx=>x) 0;have d3: ∀W,Kp No w4 W->W.cell? ⟨l,3,none⟩=some (.slice none 0 0):=λW hW=>Q0 (hW.get H4.out.2.2.2 λx=>x) 3;clear p0 p2;go_upto_region 23 with fail
    refine J4 (Kp No w4) [0,0,0,0,0,0,0,0,2] [0,1,2,3,4,5,6,7] 8 (by kernel_rfl) (by kernel_rfl) (λ_ n h=>h.drewN n) zK ?_;repeat (first|refine zA ?_|refine zB ?_|refine zC ?_)
    refine Yc (λn1=>?_);refine Q4 rfl rfl (λn2=>?_);obtain ⟨w5,hw5⟩: ∃W,W=(w4.drewN n1).drewN n2:=⟨_,rfl⟩;have k5:Kp No w4 w5:=by rw [hw5];exact ((Kp.refl No w4).drewN n1).drewN n2
    have Qus:=k5.get H4.out.2.2.2 λx=>x;have c5:w5.cell? ⟨l,4,none⟩=some (.int .i64 0):=Q0 Qus 4;have f5:=Qc Qus 4;have l5:=Q3 Qus;have Ga:=zz k5;have J6c:=zz Qus;rw [<-hw5];clear hw5 k5 Qus dp d3;go_wp2_with fail
    intro nr;obtain ⟨w6,hw6⟩: ∃W,W=(w5.setCell ⟨l,4,none⟩ (.int .i64 0)).drewN nr:=⟨_,rfl⟩;have k6:Kp (Mer.One l) w5 w6:=by rw [hw6];exact ((Kp.refl (Mer.One l) w5).setCell (p:=⟨l,4,none⟩) (.inl (show Mer.One l l from rfl)) _).drewN nr
    have Qy5:w6.heap[l]?=some (.cells #[.pointer (some ⟨d,0,none⟩), .string Q, .slice none 0 0, .slice none 0 0, .int .i64 0, .bool false] 241 (0,0)):=by
     rw [hw6];exact Qh J6c.out 4 (.int .i64 0)
    have h60:=k6.get (Ga.out.get H4.out.2.1 λx=>x) Ds.out.2.1;have Qpy:=k6.get (Ga.out.get H4.out.2.2.1 λx=>x) Ds.out.2.2.1;have Jah:w6.cell? ⟨b0,0,none⟩=some (.pointer (some ⟨l,0,none⟩)):=Q0 h60 0;have Jai:w6.cell? ⟨b1,0,none⟩=some (.int .i64 0):=Q0 Qpy 0;have f60:=Qc h60 0;have f61:=Qc Qpy 0;have Jaw:=Q3 h60;have Jax:=Q3 Qpy;have H6:=zz (And.intro (Ga.out) (And.intro k6 (And.intro h60 (And.intro Qpy Qy5))));rw [<-hw6];clear hw6 k6 Qy5 h60 Qpy c5 f5 l5;go_wp2_with fail
    obtain ⟨w7,hw7⟩: ∃W,W=(w6.setCell ⟨b0,0,none⟩ (.pointer (some ⟨l,0,none⟩))).setCell ⟨b1,0,none⟩ (.int .i64 0):=⟨_,rfl⟩;rw [<-hw7]
    have k7:Kp (λi=>i=b0\/i=b1) w6 w7:=by
     rw [hw7];exact ((Kp.refl (λi=>i=b0\/i=b1) w6).setCell (p:=⟨b0,0,none⟩) (.inl (.inl rfl)) _).setCell (p:=⟨b1,0,none⟩) (.inl (.inr rfl)) _
    obtain ⟨k5,k6,h60,Qpy,Qy5⟩:=H6.out;have hnb:=Ds.out;have J0f:=Qh h60 0 (.pointer (some ⟨l,0,none⟩));have Quq:=Cg J0f (p:=⟨b1,0,none⟩) hnb.1 (.int .i64 0);have h1a:=Cg Qpy (p:=⟨b0,0,none⟩) (λe=>hnb.1 e.symm) (.pointer (some ⟨l,0,none⟩));have h1b:=Qh h1a 0 (.int .i64 0);rw [<-hw7] at Quq h1b;have hb:=HB.out;refine Qmq (b0:=b0) (Q0 Quq 0) (Q0 h1b 0) _ rfl rfl _ ?_;have Qq0:=HD.out.lt;have Qss:=k7.get Qy5 λh=>h.elim hnb.2.2.2.1 hnb.2.2.2.2;have J89:=Qxg Qss
    have J19:Kp No w w6:=(H4.out.1.trans_same k5).trans k6 λi hi e=>by
     have e:i=l:=e;omega
    have Qvr:Kp No w w7:=J19.trans k7 λi hi e=>by
     omega
    refine ⟨l,F,Mer.One l,rfl,⟨HD.out.Q5 Qvr,J89,λk hf e=>?_⟩,λ_ h=> .inl h,λk e=>?_,Kp.of_no Qvr⟩
    ·have:=Qq0 k hf;have e:k=l:=e;omega
    ·have e:k=l:=e;omega
theorem Qhk (w:World) (l d:Nat) (P:ByteArray) (st:J2) (G:Nat->Prop) (h:Em w l d P st G) (h1:st.Qn.length<=1000000) (h2:st.synced<=1000000):
  Calls Tryz.prog 100 #[.pointer (some ⟨l,0,none⟩)] w λe w'=>e= .returned (.tuple #[.int .i64 ((st.Qn.length+1:Nat):Int), .int .i64 ((st.synced+1:Nat):Int)])/\Kp No w w':=by
 obtain ⟨sv,ev,E,hC,hE,Bd,Ub⟩:=h;obtain ⟨ea,ec,rfl,Qjl,_⟩:=hC.Qn.rd;obtain ⟨_,_,_,c3,c4,_,_⟩:=hC.cells;have hll:=Q3 hC.cell;have hn:st.Qn.length=E.length:=by rw [hE,List.length_map]
 rw [hn] at h1⊢;obtain ⟨n,hn2⟩: ∃n,n=E.length:=⟨_,rfl⟩;rw [<-hn2] at h1 c3⊢;obtain ⟨y,hy⟩: ∃y,y=st.synced:=⟨_,rfl⟩;rw [<-hy] at h2 c4⊢;clear hC hE Bd Ub hn hn2 hy Qjl;have Jaf: ∀m,(w.drewN m).cell? ⟨l,3,none⟩=some (.slice ea n ec):=λm=>c3 _ (zK.drewN m);have Jag: ∀m,(w.drewN m).cell? ⟨l,4,none⟩=some (.int .i64 (y:Int)):=λm=>c4 _ (zK.drewN m);go_enter Tryz.func100,Tryz.ntmps100
 go_upto_region 1 with fail
 go_wp2_with fail
 refine zD No [0,0,0,0,1,0,0,0,0,0,0,0,0] [0,1,2,3,6,7,8,9,10,4,5,11,12] ?_;repeat (first|refine zA ?_|refine zB ?_|refine zC ?_)
 refine Q6 (λnq=>?_);go_wp2_with fail
 go_ret2
 exact ⟨by rw [Int.natCast_add,Int.natCast_add];rfl,(Kp.refl No w).drewN nq⟩
structure Kt where
 o:Int
 after:Int
 key:ByteArray
 val:List UInt8
 gone:Bool
 ttl:Int
def Ku (r:Kt):Nat:=(bits .and .i64 r.o 1023).toNat % 5
def Qck (r:Kt):Int:=bits .and .i64 r.after 65535
theorem Q1e (x:Int): ∃v:Nat,v<=65535/\bits .and .i64 x 65535=(v:Int):=by
 have h:((BitVec.ofInt 64 x)&&&(BitVec.ofInt 64 65535)).toNat<=65535:=by
  rw [BitVec.toNat_and];exact Nat.and_le_right
 refine ⟨_,h,?_⟩;simp only [bits];unfold IntKind.wrap;have e:(2^IntKind.i64.bits:Int)=18446744073709551616:=by decide
 have e2:IntKind.i64.bits=64:=rfl;rw [e2] at e⊢;rw [e];have h2:((((BitVec.ofInt 64 x)&&&(BitVec.ofInt 64 65535)).toNat:Nat):Int)<=65535:=Int.ofNat_le.2 h;have h3:(0:Int)<=((((BitVec.ofInt 64 x)&&&(BitVec.ofInt 64 65535)).toNat:Nat):Int):=Int.natCast_nonneg _;rw [Int.emod_eq_of_lt h3 (by omega)];rw [if_neg];simp only [Bool.and_eq_true,decide_eq_true_eq,not_and];intro _;have e3:(2^(64-1):Int)=9223372036854775808:=by decide
 rw [e3];omega
theorem Qhh (x:Int): ∃v:Nat,v<=1023/\bits .and .i64 x 1023=(v:Int):=by
 have h:((BitVec.ofInt 64 x)&&&(BitVec.ofInt 64 1023)).toNat<=1023:=by
  rw [BitVec.toNat_and];exact Nat.and_le_right
 refine ⟨_,h,?_⟩;simp only [bits];unfold IntKind.wrap;have e:(2^IntKind.i64.bits:Int)=18446744073709551616:=by decide
 have e2:IntKind.i64.bits=64:=rfl;rw [e2] at e⊢;rw [e];have h2:((((BitVec.ofInt 64 x)&&&(BitVec.ofInt 64 1023)).toNat:Nat):Int)<=1023:=Int.ofNat_le.2 h;have h3:(0:Int)<=((((BitVec.ofInt 64 x)&&&(BitVec.ofInt 64 1023)).toNat:Nat):Int):=Int.natCast_nonneg _;rw [Int.emod_eq_of_lt h3 (by omega)];rw [if_neg];simp only [Bool.and_eq_true,decide_eq_true_eq,not_and];intro _;have e3:(2^(64-1):Int)=9223372036854775808:=by decide
 rw [e3];omega
def Ol (r:Kt) (m c:Int):Qf:=if r.gone=true then ⟨m,c,(Ku r:Nat),[],true,0⟩ else ⟨m,c,(Ku r:Nat),r.val,false,r.ttl⟩
def Hl (of:List Jt) (r:Kt):Int:=(Qp of (Ku r)).m+Qck r
def Hj (of:List Jt) (r:Kt):Int:=if Qck r=0 then (Qp of (Ku r)).c+1 else (Ku r:Nat)
def Vp (of:List Jt) (r:Kt):Qx:=⟨(Ku r:Nat),(Qp of (Ku r)).seq+1,r.key,Ol r (Hl of r) (Hj of r)⟩
def Hk:List Jt->List Kt->List Qx
 |_,[]=>[]
 |of,r::l=>Vp of r::Hk (Jx of (Vp of r)) l
theorem Qmm (r:Kt):Ku r<5:=by unfold Ku;omega
theorem Qml (r:Kt):0<=Qck r/\Qck r<65536:=by
 obtain ⟨v,h1,h2⟩:=Q1e r.after;unfold Qck;rw [h2];omega
theorem Q5m (r:Kt) (m c:Int):(Ol r m c).m=m/\(Ol r m c).c=c/\(Ol r m c).o=(Ku r:Nat):=by
 unfold Ol;split<;>exact ⟨rfl,rfl,rfl⟩
theorem Mt: ∀(l:List Kt) (of:List Jt),(Hk of l).length=l.length
 |[],_=>rfl
 |r::l,of=>by rw [Hk,List.length_cons,List.length_cons,Mt l]
theorem Qx9 (of:List Jt) (r:Kt):(Vp of r).o.toNat=Ku r:=by
 unfold Vp;simp
def G8:List Jt->List Kt->List Jt
 |of,[]=>of
 |of,r::l=>G8 (Jx of (Vp of r)) l
theorem Bx: ∀(l:List Kt) (of:List Jt) (r:Kt),Hk of (l++[r])=Hk of l++[Vp (G8 of l) r]/\G8 of (l++[r])=Jx (G8 of l) (Vp (G8 of l) r)
 |[],_,_=>⟨rfl,rfl⟩
 |x::l,of,r=>by
  obtain ⟨h1,h2⟩:=Bx l (Jx of (Vp of x)) r;refine ⟨?_,h2⟩;show Vp of x::Hk _ (l++[r])=_
  rw [h1];rfl
structure Q0f (k:Nat) (of:List Jt):Prop where
 five:of.length=5
 seq: ∀i,0<=(Qp of i).seq/\(Qp of i).seq<=1099511627776+k
 m: ∀i,0<=(Qp of i).m/\(Qp of i).m<=281474976710655+65535*k
 c: ∀i,0<=(Qp of i).c/\(Qp of i).c<=65535+k
theorem Q0f.step {k:Nat} {of:List Jt} (h:Q0f k of) (r:Kt):Q0f (k+1) (Jx of (Vp of r)):=by
 have ho:=Qmm r;have ha:=Qml r;obtain ⟨v1,v2,_⟩:=Q5m r (Hl of r) (Hj of r);have hm:(Vp of r).v.m=Hl of r:=v1;have hc:(Vp of r).v.c=Hj of r:=v2;have hs:(Vp of r).seq=(Qp of (Ku r)).seq+1:=rfl;have b1:=h.seq (Ku r);have b2:=h.m (Ku r);have b3:=h.c (Ku r);have hcc:0<=Hj of r/\Hj of r<=65535+((k+1:Nat):Int):=by unfold Hj;split<;>omega
 have hmm:0<=Hl of r/\Hl of r<=281474976710655+65535*((k+1:Nat):Int):=by unfold Hl;omega
 have hat: ∀i,Qp (Jx of (Vp of r)) i=if Ku r=i then ⟨(Vp of r).seq,(Vp of r).v.m,(Vp of r).v.c⟩ else Qp of i:=λi=>by
  unfold Jx;rw [Qx9,Ea (by rw [h.five];omega)]
 refine ⟨by unfold Jx;rw [List.length_set];exact h.five,λi=>?_,λi=>?_,λi=>?_⟩
 ·rw [hat];split
  ·rw [hs];simp only;omega
  ·have:=h.seq i;omega
 ·rw [hat];split
  ·simp only [hm];exact hmm
  ·have:=h.m i;omega
 ·rw [hat];split
  ·simp only [hc];exact hcc
  ·have:=h.c i;omega
theorem Q0f.upto: ∀(l:List Kt) {k:Nat} {of:List Jt},Q0f k of->Q0f (k+l.length) (G8 of l)
 |[],_,_,h=>h
 |r::l,k,_,h=>by
  have:=Q0f.upto l (h.step r);rw [List.length_cons,show k+(l.length+1)=k+1+l.length by omega];exact this
theorem Qhn:Q0f 0 (List.replicate 5 ⟨0,0,0⟩):=by
 have h: ∀i,Qp (List.replicate 5 ⟨0,0,0⟩) i=⟨0,0,0⟩:=λi=>by
  unfold Qp;rw [List.getD_eq_getElem?_getD,List.getElem?_replicate];split<;>rfl
 exact ⟨rfl,λi=>by rw [h i];decide,λi=>by rw [h i];decide,λi=>by rw [h i];decide⟩
end Go.Proofs.YtgnkmjeoaoongaaGreatDoor
namespace Go.Mer
open Go.ChangeShapes Go.WideShapes Go.RowKit Go.Deep
section
variable {H:Type} {enc:TypeId×Value->H} {P:Program} {W:World}
def Opn (P:Program) (W:World):Nat->TypeId->List Value->Prop
 |0,_,_=>False
 |n+1,t,cs=>match P.underlying t with
  |some .bool=> ∃b,cs=[.bool b]
  |some (.int k)=> ∃x,cs=[.int k x]/\(Lit.int k x).wf=true
  |some .string=> ∃s:ByteArray,cs=[.string s]/\s.size<=140737488351232
  |some (.slice e)=> ∃(a:Option Addr) (len cap:Nat),cs=[.slice a len cap]/\len<=cap/\cap*P.bytesOf e<=140737488351232/\
    (0<P.cellsOf e-> ∀i,i<len-> ∃(g off:Nat) (cs':List Value),a=some ⟨g,off,none⟩/\g<W.heap.size/\cs'.length=P.cellsOf e/\
     (∀j,j<P.cellsOf e->W.cell? ⟨g,off+i*P.cellsOf e+j,none⟩=cs'[j]?)/\Opn P W n e cs')
  |some (.struct fs)=>cs.length=P.cellsOf t/\ ∀(i:Nat) (f:Field),fs[i]?=some f->Opn P W n f.type ((cs.drop f.offset).take (P.cellsOf f.type))
  |_=>True
theorem Kq {ts:List TypeId} {ds:List (DataW H)} {j:Nat} {t:TypeId} {d:DataW H} (ht:ts[j]?=some t) (hd:ds[j]?=some d): ∀n∈d.weights P t,n∈DataW.weightsEach P ts ds:=
 λn hn=>DataW.weights_mem_each ht hd n hn
theorem Ka: ∀{n:Nat} {t:TypeId} {cs:List Value} {d:DataW H} {ps:List MemPlace},DataW.trod enc P W 0 (λ_=>true) true n t cs=some (d,ps)->(∀m∈d.weights P t,m<=reachBytes)->Opn P W n t cs
 |0,t,cs,d,ps,h,_=>by simp [DataW.trod] at h
 |n+1,t,cs,d,ps,h,hw=>by
  unfold Opn;cases hu:P.underlying t with
  |none=>trivial
  |some u=>
   cases u with
   |bool=>
    obtain ⟨b,hb,_⟩:=DataW.trod_bool hu h;exact ⟨b,hb⟩
   |int k=>
    obtain ⟨x,hx,_,hwf⟩:=DataW.trod_int hu h;exact ⟨x,hx,hwf⟩
   |string=>
    obtain ⟨s,hs,hd,_⟩:=DataW.trod_string hu h;injection hd with hd _;subst hd;refine ⟨s,hs,?_⟩;have:=hw s.data.toList.length (by simp [DataW.weights]);have e:s.data.toList.length=s.size:=Array.length_toList;rw [e,Q61] at this;exact this
   |slice e=>
    rcases open_slice hu h with ⟨hcs,_⟩|⟨a,len,cap,m,n',D,Pl,hcs,_,hl,_,hm,hx,hi⟩
    ·exact ⟨none,0,0,hcs,Nat.le_refl _,by simp,λ_ i hi=>by omega⟩
    ·simp only [if_true] at hm;subst hm;injection hx with hd _;subst hd;refine ⟨some a,len,m,hcs,hl,?_,λhz i hil=>?_⟩
     ·have:=hw _ (by simp only [DataW.weights,hu];exact List.mem_cons_self ..);simp only [List.length_map,List.length_range,Q61] at this;rwa [show len+(m-len)=m by omega] at this
     ·rcases DataW.trod_slice hu h with ⟨hcs',_⟩|⟨a',len',cap',elems,rest,n2,hn2,hcs',hx',_,_,_,hlen,hel,_,_⟩
      ·rw [hcs'] at hcs;simp at hcs
      ·rw [hcs'] at hcs;injection hcs with hcs;injection hcs with e1 e2 e3;injection e1 with e1;subst e1;subst e2;subst e3;obtain rfl:n=n2:=by omega
       have h1:=hel i hil;rw [List.getElem?_eq_getElem (by omega)] at h1;obtain ⟨cs',h2,h3⟩:=Option.bind_eq_some_iff.1 h1;obtain ⟨_,hl',hat⟩:=World.cells?_some h2
       have hgood:Opn P W n e cs':=Ka (d:=(elems[i]'(by omega)).1) (ps:=(elems[i]'(by omega)).2) h3 (λm' hm'=>by
        refine hw m' ?_;injection hx' with hx' _;rw [hx'];simp only [DataW.weights,hu];refine List.mem_cons_of_mem _ (List.mem_append_left _ ?_);exact Ko (d:=(elems[i]'(by omega)).1) (List.mem_map.2 ⟨_,List.getElem_mem (by omega),rfl⟩) _ hm')
       have hc0:=hat 0 hz;rw [List.getElem?_eq_getElem (by omega),Go.Deep.add_add] at hc0;obtain ⟨g,off,spot⟩:=a'
       have hs:spot=none:=by
        have k1:=hel 0 (by omega);rw [List.getElem?_eq_getElem (by omega)] at k1;obtain ⟨cs0,k2,_⟩:=Option.bind_eq_some_iff.1 k1;obtain ⟨_,k3,k4⟩:=World.cells?_some k2;have k5:=k4 0 hz;rw [List.getElem?_eq_getElem (by omega),Go.Deep.add_add] at k5;simpa [Addr.add] using World.cell?_spot k5
       subst hs;have hg:=World.block_lt_of_cell? W _ hc0;refine ⟨g,off,cs',rfl,by (have:=hg;rw [Jq] at this;exact this),hl',λj hj=>?_,hgood⟩;have:=hat j hj;rw [Go.Deep.add_add,Jq] at this;rw [Nat.add_assoc];exact this
   |struct fs=>
    obtain ⟨xs,n',hn',hx,hl,hlx,hf⟩:=DataW.trod_struct hu h;obtain rfl:n=n':=by omega
    refine ⟨hl,λi f hi=>?_⟩;have h1:=hf i f hi;have hil:i<fs.size:=(Array.getElem?_eq_some_iff.1 hi).1;rw [List.getElem?_eq_getElem (by omega)] at h1;refine Ka (d:=(xs[i]'(by omega)).1) (ps:=(xs[i]'(by omega)).2) h1 (λm hm=>hw m ?_);injection hx with hx _;rw [hx];simp only [DataW.weights,hu];exact Kq (j:=i) (t:=f.type) (by simp [hi]) (by simp [List.getElem?_eq_getElem (show i<xs.length by omega)]) _ hm
   |_=>trivial
theorem Q1g {R:Type} {n c:Nat} {t e:TypeId} {a:Option Addr} {len cap:Nat} (h:Opn P W (n+1) t [.slice a len cap]) (ht:P.underlying t=some (.slice e)) (he:P.cellsOf e=c) (hc:0<c) (f:R->List Value) (Q:R->Prop) (hf: ∀r,(f r).length=c)
  (hone: ∀cs,Opn P W n e cs-> ∃r,cs=f r/\Q r): ∃L:List R,L.length=len/\Rd W W.heap.size a (L.flatMap f)/\(∀r∈L,Q r)/\len<=cap/\cap*P.bytesOf e<=140737488351232:=by
 unfold Opn at h;rw [ht] at h;obtain ⟨a',len',cap',hcs,hl,hr,hrow⟩:=h;injection hcs with hcs;injection hcs with e1 e2 e3;subst e1;subst e2;subst e3;rw [he] at hrow
 have hget: ∀i,i<len-> ∃r,Q r/\ ∃g off,a=some ⟨g,off,none⟩/\g<W.heap.size/\ ∀j,j<c->W.cell? ⟨g,off+i*c+j,none⟩=(f r)[j]?:=λi hi=>by
  obtain ⟨g,off,cs',h1,h2,h3,h4,h5⟩:=hrow hc i hi;obtain ⟨r,rfl,hq⟩:=hone cs' h5;exact ⟨r,hq,g,off,h1,h2,h4⟩
 by_cases h0:len=0
 ·subst h0;exact ⟨[],rfl,Rd.nil _ _ _,by simp,hl,hr⟩
 ·obtain ⟨r0,_,_⟩:=hget 0 (by omega)
  obtain ⟨F,hF⟩: ∃F:Nat->R,∀i,i<len->Q (F i)/\ ∃g off,a=some ⟨g,off,none⟩/\g<W.heap.size/\ ∀j,j<c->W.cell? ⟨g,off+i*c+j,none⟩=(f (F i))[j]?:=by
   refine ⟨λi=>if h:i<len then Classical.choose (hget i h) else r0,λi hi=>?_⟩;simp only [dif_pos hi];exact Classical.choose_spec (hget i hi)
  refine ⟨(List.range len).map F,by simp,λhx=>?_,λr hr=>?_,hl,hr⟩
  ·obtain ⟨_,g,off,h1,h2,_⟩:=hF 0 (by omega);refine ⟨g,off,h1,h2,Nat.le_refl _,λj u hu=>?_⟩
   have hlen: ∀m,(((List.range m).map F).flatMap f).length=m*c:=λm=>by
    induction m with
    |zero=>simp
    |succ m ih=>rw [List.range_succ,List.map_append,List.flatMap_append,List.length_append,ih,Nat.add_mul];simp [hf]
   have hj:j<len*c:=by rw [<-hlen len];exact (List.getElem?_eq_some_iff.1 hu).1
   have hi:j/c<len:=(Nat.div_lt_iff_lt_mul hc).2 hj;obtain ⟨_,g',off',h3,_,h4⟩:=hF (j/c) hi;rw [h1] at h3;injection h3 with h3;injection h3 with e1 e2 _;subst e1;subst e2;have h5:=h4 (j % c) (Nat.mod_lt _ hc);rw [Nat.add_assoc,Nat.mul_comm,Nat.div_add_mod] at h5;rw [h5]
   have hsplit:((List.range len).map F).flatMap f=((List.range (j/c)).map F).flatMap f++(f (F (j/c))++(((List.range len).map F).drop (j/c+1)).flatMap f):=by
    have e1:(List.range len).map F=(List.range (j/c)).map F++(F (j/c)::((List.range len).map F).drop (j/c+1)):=by
     have hl':j/c<((List.range len).map F).length:=by simpa using hi
     have hd:=List.drop_eq_getElem_cons hl';have ht:=(List.take_append_drop (j/c) ((List.range len).map F)).symm;rw [hd,List.getElem_map,List.getElem_range,<-List.map_take,List.take_range,Nat.min_eq_left (by omega)] at ht;exact ht
    conv=>lhs;rw [e1]
    rw [List.flatMap_append,List.flatMap_cons]
   rw [hsplit,List.getElem?_append_right (by rw [hlen];rw [Nat.mul_comm];exact Nat.mul_div_le j c),hlen] at hu;have e2:j-j/c*c=j % c:=by rw [Nat.mul_comm];have:=Nat.div_add_mod j c;omega
   rw [e2,List.getElem?_append_left (by rw [hf];exact Nat.mod_lt _ hc)] at hu;exact hu
  ·obtain ⟨i,hi,rfl⟩:=List.mem_map.1 hr;exact (hF i (List.mem_range.1 hi)).1
theorem Q4g {n:Nat} {t:TypeId} {k:IntKind} {cs:List Value} (h:Opn P W n t cs) (ht:P.underlying t=some (.int k)): ∃x,cs=[.int k x]/\(Lit.int k x).wf=true:=by
 cases n with
 |zero=>exact h.elim
 |succ n=>unfold Opn at h;rw [ht] at h;exact h
theorem Qfw {n:Nat} {t:TypeId} {cs:List Value} (h:Opn P W n t cs) (ht:P.underlying t=some (.int .i64)): ∃x,cs=[.int .i64 x]/\ -9223372036854775808<=x/\x<=9223372036854775807:=by
 obtain ⟨x,h1,h2⟩:=Q4g h ht;have a1:IntKind.i64.min= -9223372036854775808:=rfl;have a2:IntKind.i64.max=9223372036854775807:=rfl;simp only [Lit.wf,Bool.and_eq_true,decide_eq_true_eq,a1,a2] at h2;exact ⟨x,h1,h2⟩
theorem Qbu {n:Nat} {t:TypeId} {cs:List Value} (h:Opn P W n t cs) (ht:P.underlying t=some .bool): ∃x,cs=[.bool x]:=by
 cases n with
 |zero=>exact h.elim
 |succ n=>unfold Opn at h;rw [ht] at h;exact h
theorem Q4h {n:Nat} {t:TypeId} {cs:List Value} (h:Opn P W n t cs) (ht:P.underlying t=some .string): ∃s:ByteArray,cs=[.string s]/\s.size<=140737488351232:=by
 cases n with
 |zero=>exact h.elim
 |succ n=>unfold Opn at h;rw [ht] at h;exact h
theorem B8 {n:Nat} {t e:TypeId} {cs:List Value} (h:Opn P W n t cs) (ht:P.underlying t=some (.slice e)): ∃n' a len cap,n=n'+1/\cs=[.slice a len cap]:=by
 cases n with
 |zero=>exact h.elim
 |succ n=>
  unfold Opn at h;rw [ht] at h;obtain ⟨a,len,cap,rfl,_⟩:=h;exact ⟨n,a,len,cap,rfl,rfl⟩
theorem Hb {n:Nat} {t:TypeId} {fs:Array Field} {cs:List Value} (h:Opn P W n t cs) (ht:P.underlying t=some (.struct fs)):
  ∃n',n=n'+1/\cs.length=P.cellsOf t/\ ∀(i:Nat) (f:Field),fs[i]?=some f->Opn P W n' f.type ((cs.drop f.offset).take (P.cellsOf f.type)):=by
 cases n with
 |zero=>exact h.elim
 |succ n=>
  unfold Opn at h;rw [ht] at h;exact ⟨n,rfl,h⟩
theorem Q9y: ∀L:List UInt8,L.flatMap (λb:UInt8=>[u8 b])=u8s L
 |[]=>rfl
 |b::L=>by rw [List.flatMap_cons,Q9y L];rfl
theorem Q7y {n:Nat} {t e:TypeId} {cs:List Value} (h:Opn P W n t cs) (ht:P.underlying t=some (.slice e)) (he:P.underlying e=some (.int .u8)) (ce:P.cellsOf e=1) (be:P.bytesOf e=1):
  ∃(a:Option Addr) (cap:Nat) (l:List UInt8),cs=[.slice a l.length cap]/\Rd W W.heap.size a (u8s l)/\l.length<=cap/\cap<=140737488351232:=by
 obtain ⟨n',a,len,cap,rfl,rfl⟩:=B8 h ht
 obtain ⟨L,rfl,hr,_,h1,h2⟩:=Q1g h ht ce (by decide) (λb:UInt8=>[u8 b]) (λ_=>True) (λ_=>rfl) (λcs hg=>by
  obtain ⟨x,rfl,hx⟩:=Q4g hg he;exact ⟨J32 x,by rw [Qrx hx],trivial⟩)
 refine ⟨a,cap,L,rfl,?_,h1,by rw [be] at h2;omega⟩;rwa [Q9y] at hr
theorem Ep {n k:Nat} {fs:Array Field} {cs:List Value} (hf: ∀(i:Nat) (f:Field),fs[i]?=some f->Opn P W n f.type ((cs.drop f.offset).take (P.cellsOf f.type))) (i:Nat) (f:Field) (hi:fs[i]?=some f) (hc:P.cellsOf f.type=k):
  Opn P W n f.type ((cs.drop f.offset).take k):=hc▸hf i f hi
theorem B7 {ts:List TypeId} {ds:List (DataW H)} (hsz:(DataW.weightsEach P ts ds).all (· <=reachBytes)=true) {j:Nat} {t:TypeId} {d:DataW H} (hj:ts[j]?=some t) (hd:ds[j]?=some d) {v:Value} {ps:List MemPlace}
  (h:DataW.Trod enc P W 0 (λ_=>true) true t v d ps): ∃n,Opn P W n t v.cells.toList:=by
 obtain ⟨n,h⟩:=h;exact ⟨n,Ka h λm hm=>of_decide_eq_true (List.all_eq_true.1 hsz m (Kq hj hd m hm))⟩
end
end Go.Mer
namespace Go.Proofs.YtgnkmjeoaoongaaGreatDoor
open Go.RowKit Go.Mer
def I64 (x:Int):Prop:= -9223372036854775808<=x/\x<=9223372036854775807
section
variable {W:World}
theorem Cx:Tryz.prog.cellsOf 3=1:=by kernel_rfl
theorem Qkh:Tryz.prog.cellsOf 4=1:=by kernel_rfl
theorem Qpp:Tryz.prog.cellsOf 9=1:=by kernel_rfl
theorem Qfa:Tryz.prog.cellsOf 42=1:=by kernel_rfl
theorem Qfb:Tryz.prog.cellsOf 25=2:=by kernel_rfl
theorem Qka:Tryz.prog.bytesOf 5=1:=by kernel_rfl
theorem Qki:Tryz.prog.cellsOf 5=1:=by kernel_rfl
theorem B4 {n:Nat} {a:Value} (h:Opn Tryz.prog W n 3 [a]): ∃x:Int,a= .int .i64 x/\I64 x:=by
 obtain ⟨x,e,h1⟩:=Qfw h Tryz.underlying3;injection e with e;exact ⟨x,e,h1⟩
theorem Qkt {n:Nat} {a:Value} (h:Opn Tryz.prog W n 4 [a]): ∃x:Bool,a= .bool x:=by
 obtain ⟨x,e⟩:=Qbu h Tryz.underlying4;injection e with e;exact ⟨x,e⟩
theorem Qpv {n:Nat} {a:Value} (h:Opn Tryz.prog W n 9 [a]): ∃s:ByteArray,a= .string s/\s.size<=140737488351232:=by
 obtain ⟨x,e,h1⟩:=Q4h h Tryz.underlying9;injection e with e;exact ⟨x,e,h1⟩
theorem Qfs {n:Nat} {a:Value} (h:Opn Tryz.prog W n 42 [a]): ∃(b:Option Addr) (cap:Nat) (l:List UInt8),a= .slice b l.length cap/\Rd W W.heap.size b (u8s l)/\l.length<=cap/\cap<=140737488351232:=by
 obtain ⟨b,cap,l,e,h1⟩:=Q7y h Tryz.underlying42 Tryz.underlying5 Qki Qka;injection e with e;exact ⟨b,cap,l,e,h1⟩
theorem B9 {n:Nat} {cs:List Value} (h:Opn Tryz.prog W n 25 cs): ∃x y:Int,cs=[.int .i64 x, .int .i64 y]/\I64 x/\I64 y:=by
 obtain ⟨n,rfl,hl,hf⟩:=Hb h Tryz.underlying25;rw [Qfb] at hl;match cs,hl with
 |[a0,a1],_=>
  obtain ⟨x,rfl,h0⟩:=B4 (Ep hf 0 _ rfl Cx);obtain ⟨y,rfl,h1⟩:=B4 (Ep hf 1 _ rfl Cx);exact ⟨x,y,rfl,h0,h1⟩
end
structure RowR where
 r:Kt
 a:Option Addr
 cap:Nat
def rwC (x:RowR):List Value:=[.int .i64 x.r.o, .int .i64 x.r.after, .string x.r.key, .slice x.a x.r.val.length x.cap, .bool x.r.gone, .int .i64 x.r.ttl]
theorem rwC_len (x:RowR):(rwC x).length=6:=rfl
structure RowArg (W:World) (x:RowR):Prop where
 o:I64 x.r.o
 after:I64 x.r.after
 ttl:I64 x.r.ttl
 key:x.r.key.size<=140737488351232
 rd:Rd W W.heap.size x.a (u8s x.r.val)
 le:x.r.val.length<=x.cap
 cap:x.cap<=140737488351232
def RowsIn (w:World) (a:Option Addr) (L:List RowR):Prop:=Rd w w.heap.size a (L.flatMap rwC)/\ ∀x∈L,RowArg w x
theorem RowArg.kp {w w':World} {x:RowR} (h:RowArg w x) (hk:Kp No w w'):RowArg w' x:={h with rd:=Rd.kp h.rd hk}
theorem RowsIn.kp {w w':World} {a:Option Addr} {L:List RowR} (h:RowsIn w a L) (hk:Kp No w w'):RowsIn w' a L:=⟨Rd.kp h.1 hk,λx hx=>(h.2 x hx).kp hk⟩
section
variable {W:World}
theorem ca_row:Tryz.prog.cellsOf 113=6:=by kernel_rfl
theorem ba_row:Tryz.prog.bytesOf 113=72:=by kernel_rfl
theorem good_row {n:Nat} {cs:List Value} (h:Opn Tryz.prog W n 113 cs): ∃x:RowR,cs=rwC x/\RowArg W x:=by
 obtain ⟨n,rfl,hl,hf⟩:=Hb h Tryz.underlying113;rw [ca_row] at hl;match cs,hl with
 |[a0,a1,a2,a3,a4,a5],_=>
  obtain ⟨o,rfl,ho⟩:=B4 (Ep hf 0 _ rfl Cx);obtain ⟨af,rfl,haf⟩:=B4 (Ep hf 1 _ rfl Cx);obtain ⟨k,rfl,hk⟩:=Qpv (Ep hf 2 _ rfl Qpp);obtain ⟨b,cap,l,rfl,h1,h2,h3⟩:=Qfs (Ep hf 3 _ rfl Qfa);obtain ⟨g,rfl⟩:=Qkt (Ep hf 4 _ rfl Qkh);obtain ⟨t,rfl,ht⟩:=B4 (Ep hf 5 _ rfl Cx);exact ⟨⟨⟨o,af,k,l,g,t⟩,b,cap⟩,rfl,ho,haf,ht,hk,h1,h2,h3⟩
theorem good_rows {n:Nat} {cs:List Value} (h:Opn Tryz.prog W n 22 cs): ∃(a:Option Addr) (cap:Nat) (L:List RowR),cs=[.slice a L.length cap]/\RowsIn W a L/\L.length<=cap/\cap<=140737488351232:=by
 obtain ⟨n',a,len,cap,rfl,rfl⟩:=B8 h Tryz.underlying22;obtain ⟨L,rfl,hr,hq,h1,h2⟩:=Q1g h Tryz.underlying22 ca_row (by decide) rwC (RowArg W) rwC_len (λcs hg=>good_row hg);refine ⟨a,cap,L,rfl,⟨hr,hq⟩,h1,?_⟩;rw [ba_row] at h2;omega
theorem row_range {w:World} {a:Option Addr} {L:List RowR} (h:Rd w w.heap.size a (L.flatMap rwC)) {k:Nat} (hk:k<L.length):
  ∃g off,a=some ⟨g,off,none⟩/\g<w.heap.size/\ ∀W,Kp No w W->W.rangeAt g (off+k*6) (rwC L[k]):=by
 obtain ⟨g,off,ha,hc⟩:=Ye (f:=rwC) rwC_len (by decide) h hk;obtain ⟨g',off',ha',hg',_⟩:=h (by rw [Vz rwC 6 rwC_len];omega);rw [ha] at ha';injection ha' with ha';injection ha' with e1 e2;exact ⟨g,off,ha,by rw [e1];exact hg',λW hW j u hu=>hc W hW j u hu⟩
end
end Go.Proofs.YtgnkmjeoaoongaaGreatDoor
