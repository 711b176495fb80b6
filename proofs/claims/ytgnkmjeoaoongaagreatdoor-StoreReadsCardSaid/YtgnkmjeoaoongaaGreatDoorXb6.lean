/-
  WSync, WAppP, WAppend.
-/
import Derived.Test.YtgnkmjeoaoongaaGreatDoorXb2
import Derived.Test.YtgnkmjeoaoongaaGreatDoorXb3
set_option maxRecDepth 100000
set_option maxHeartbeats 4000000
namespace Go.Proofs.YtgnkmjeoaoongaaGreatDoor
open Go.RowKit Go.Mer
theorem Ze.dead {w W2 w3 w4:World} {d l:Nat} {P:ByteArray} {F G T:Nat->Prop} {s':Qu} {st':J2} (hF: ∀k,F k->k<w.heap.size) (hG: ∀k,G k->k<w.heap.size) (hS:Ze W2 d l P F G s' st' w3) (hk0:Kp No w W2) (hk:Kp T w3 w4) (hT: ∀k,T k->w.heap.size<=k/\(k<W2.heap.size\/w3.heap.size<=k)) (b:Bool):
  (∃z,w4.cell? ⟨l,5,none⟩=some z)/\w4.frozen? ⟨l,5,none⟩=false/\l<w4.heap.size/\Ze w d l P F G s' {st' with dead:=b} (w4.setCell ⟨l,5,none⟩ (.bool b)):=by
 obtain ⟨F',G',hW,J0k,J0o,J51⟩:=hS;have hs0:=hk0.size;have hs1:=J51.size;have hfw: ∀k,F' k->F k\/W2.heap.size<=k:=J0k
 have J8b: ∀k,F' k-> ¬T k:=λk hf ht=>by
  have h1:=hT k ht;have h2:=hW.disk.lt k hf;rcases J0k k hf with h3|h3
  ·have:=hF k h3;omega
  ·omega
 have J8c: ∀k,G' k-> ¬T k:=λk hg ht=>by
  have h1:=hT k ht;have h2:=hW.log.lt k hg;rcases J0o k hg with h3|h3
  ·have:=hG k h3;omega
  ·omega
 have hD4:=hW.disk.keep hk J8b;have hL4:=hW.log.keep hk J8c;have Ng:Lt w4 d l P s' st' F' G':=⟨hD4,hL4,hW.sep⟩;obtain ⟨sv,ev,E,hrun,hE,_⟩:=V1.start hL4;obtain ⟨_,_,_,_,_,c5,fr⟩:=hrun.c.cells;have hll:=Q3 hrun.c.cell;have hcl:=Qh hrun.c.cell 5 (.bool b);have hR2:=hrun.flag (Zt:=st'.synced) (Uj:=b) (W':=w4.setCell ⟨l,5,none⟩ (.bool b)) ((Kp.refl (One l) _).setCell (p:=⟨l,5,none⟩) (.inl rfl) _) (by simpa using hcl);obtain ⟨G2,hL2,hG2,hK2⟩:=hR2.stop;rw [<-hE] at hL2;have Dk:=Ng.Aw hL2 hG2 hK2;refine ⟨⟨_,c5 w4 zK⟩,fr w4 zK 5,hll,F',G2,Dk,λk hk'=>(J0k k hk').imp id λh=>Nat.le_trans hs0 h,λk hk'=>?_,?_⟩
 ·rcases hG2 k hk' with h|h
  ·exact (J0o k h).imp id λh=>Nat.le_trans hs0 h
  ·right
   have:=hk.size;omega
 ·have h1:Kp (Xp F G) w w3:=(Kp.of_no hk0).trans_same J51;have h2:Kp (Xp F G) w w4:=h1.trans hk λi hi ht=>by have:=hT i ht;omega
  refine h2.trans hK2 λi hi hg=>?_;rcases J0o i hg with h|h
  ·exact .inr h
  ·omega
def Quf (w:World) (d l:Nat) (P:ByteArray) (F G:Nat->Prop) (r:Int×Qu×J2) (e:Ending) (w':World):Prop:=e= .returned (.int .i64 r.1)/\Ze w d l P F G r.2.1 r.2.2 w'
theorem Qid {s:Qu} {x:ByteArray}: ∃k:Nat,(L8 s x).1=(k:Int):=by
 obtain ⟨n,hn⟩:=Int.eq_ofNat_of_zero_le (Qar s x).1;exact ⟨n,hn⟩
theorem Il (P:ByteArray) (s:Qu) (st:J2): ∃k:Nat,(J0 P s st).1=(k:Int):=by
 unfold J0;split
 ·split
  ·exact ⟨0,rfl⟩
  ·exact Qid
 ·exact ⟨0,rfl⟩
theorem Qdc (w:World) (d l:Nat) (P:ByteArray) (s:Qu) (st:J2) (F G:Nat->Prop) (h:Lt w d l P s st F G) (hne:st.Qk=[]->st.Qn.length<=st.synced):
  Calls Tryz.prog 113 #[.pointer (some ⟨l,0,none⟩)] w (Quf w d l P F G (Uq P s st)):=by
 have hmf: ∀(fn:Fn) (first cap:Array Value) (w:World),(Instr.makeFunc fn first cap).run Tryz.prog w= .ok (.func fn first cap) w:=λ_ _ _ _=>rfl;obtain ⟨sv,ev,E,hC,hE,Bd,Ub⟩:=h.log;obtain ⟨_,_,_,_,_,c5,fr⟩:=hC.cells;have hll:=Q3 hC.cell;have Q2d:=h.disk.lt;have Q2e:=h.log.lt;have Lo:=zz c5;have H:=zz h;have Qef:=zz hne;have Q9h:=zz Q2d;have Qj6:=zz Q2e;clear h hE Bd Ub hC fr c5 Q2d Q2e hne;cases hd:st.dead with
 |true=>
  have hq:Uq P s st=(9,s,st):=by unfold Uq;rw [if_pos hd]
  have HQ:=zz hq;have hk2:Kp No w ((w.alloc (.cells #[.pointer (some ⟨l,0,none⟩)] 127)).alloc (.cells #[.int .i64 0] 47)):=((Kp.refl No w).alloc _).alloc _;have C6:=Lo.out _ hk2;rw [hd] at C6;clear hq hd hk2;go_enter_defers Tryz.func113,Tryz.ntmps113
  go_wp2_with fail
  refine Na (v:= .int .i64 9) rfl (by simp [results,Tryz.results113,go_sem]) ⟨by rw [HQ.out],?_⟩;rw [HQ.out];exact Ze.here H.out (((Kp.refl No w).alloc _).alloc _)
 |false=>
  have hq:Uq P s st=((J0 P s st).1,(J0 P s st).2.1,{(J0 P s st).2.2 with dead:=decide ((J0 P s st).1≠0)}):=by
   unfold Uq;rw [if_neg (by rw [hd];decide)]
  have HQ:=zz hq;obtain ⟨W2,hW2⟩: ∃W,W=(w.alloc (.cells #[.pointer (some ⟨l,0,none⟩)] 127)).alloc (.cells #[.int .i64 0] 47):=⟨_,rfl⟩;have hk2:Kp No w W2:=by rw [hW2];exact ((Kp.refl No w).alloc _).alloc _
  have C6:=Lo.out W2 hk2;rw [hd] at C6;have J4g:W2.cell? ⟨w.heap.size,0,none⟩=some (.pointer (some ⟨l,0,none⟩)):=by rw [hW2];simp [go_sem]
  have J4h:W2.cell? ⟨w.heap.size+1,0,none⟩=some (.int .i64 0):=by rw [hW2];simp [go_sem]
  have Qy2:W2.frozen? ⟨w.heap.size+1,0,none⟩=false:=by rw [hW2];simp [go_sem]
  have hs2:W2.heap.size=w.heap.size+1+1:=by rw [hW2];simp
  have hsy:=Q1n W2 d l P s st F G (H.out.no hk2) Qef.out;obtain ⟨b0,hb0⟩: ∃b0,b0=w.heap.size:=⟨_,rfl⟩;have Q3w:=zz hsy;have Qz:=zz hk2;have HW2:=zz hW2;have HB0:=zz hb0;have J4l:=C6;rw [hW2] at J4l;rw [<-hb0] at J4g J4h Qy2 hs2;clear hq hd hk2 hsy C6 hW2;go_enter_defers Tryz.func113,Tryz.ntmps113
  go_upto_region 6 with fail
  rw [<-HW2.out,<-hb0];clear J4l hb0;go_wp2_with fail
  have hc:=Q3w.out;with_reducible refine hc.mono ?_
  rintro e w3 ⟨hs3,Ql3⟩;clear hc Q3w;obtain ⟨k,hk⟩:=Il P s st;rw [hk] at Ql3
  have hkb:Kp (Xp F G) W2 w3:=by
   obtain ⟨_,_,_,_,_,hkk⟩:=hs3;exact hkk
  have J10: ∀i,b0<=i-> ¬Xp F G i:=λi hi hb=>by
   have h0:=HB0.out;rcases hb with hb|hb
   ·have:=Q9h.out i hb;omega
   ·have:=Qj6.out i hb;omega
  have hln:l<b0:=by rw [HB0.out];exact hll
  have g0:w3.cell? ⟨b0,0,none⟩=some (.pointer (some ⟨l,0,none⟩)):=(hkb.cell (p:=⟨b0,0,none⟩) (by show b0<_;omega) (J10 b0 (Nat.le_refl _))).trans J4g;have g1:w3.cell? ⟨b0+1,0,none⟩=some (.int .i64 0):=(hkb.cell (p:=⟨b0+1,0,none⟩) (by show b0+1<_;omega) (J10 (b0+1) (by omega))).trans J4h;have f1:w3.frozen? ⟨b0+1,0,none⟩=false:=(hkb.frozen (p:=⟨b0+1,0,none⟩) (by show b0+1<_;omega) (J10 (b0+1) (by omega))).trans Qy2;have hl3:b0+1<w3.heap.size:=by have:=hkb.size;omega
  have J91:=hkb.size;have Qzi:=zz hs3;have HK:=zz hk;have hTs: ∀i,i=b0+1->w.heap.size<=i/\(i<W2.heap.size\/w3.heap.size<=i):=λi hi=>by have:=HB0.out;omega
  have Qzl:=zz hTs;rcases Ql3 with ⟨hz,rfl⟩|⟨hz,rfl⟩
  ·obtain ⟨w4,hw4⟩: ∃W,W=w3.setCell ⟨b0+1,0,none⟩ (.int .i64 0):=⟨_,rfl⟩;have k4:Kp (λi=>i=b0+1) w3 w4:=by rw [hw4];exact (Kp.refl (λi=>i=b0+1) w3).setCell (p:=⟨b0+1,0,none⟩) (.inl rfl) _
   obtain ⟨⟨z,Qom⟩,hf5,hl5,hfin⟩:=Qzi.out.dead Q9h.out Qj6.out Qz.out k4.drew (by exact Qzl.out) false;have q0:w4.cell? ⟨b0,0,none⟩=some (.pointer (some ⟨l,0,none⟩)):=(k4.cell (p:=⟨b0,0,none⟩) (by show b0<_;omega) (by show ¬b0=b0+1;omega)).trans g0;have q1:w4.cell? ⟨b0+1,0,none⟩=some (.int .i64 0):=by rw [hw4];simp [go_sem,g1]
   have hce:=Qct ⟨b0+1,0,none⟩ ⟨b0,0,none⟩ l z w4 q0 Qom hf5;have Q0b:=zz hce;have Zv:=zz hfin;have HR1:=zz q1;have Qk4:=zz hw4;clear hce hfin hw4 k4 q0 q1 Qom hf5 hl5;go_wp2_with fail
   rw [<-Qk4.out];refine leaves_cons (f:=188) (args:= #[.pointer (some ⟨b0+1,0,none⟩), .pointer (some ⟨b0,0,none⟩)]) (by simp) (by simp [go_sem]) ?_;refine Q0b.out.mono ?_;rintro e u' w'' ⟨rfl,rfl,rfl⟩;refine ⟨.int .i64 0,?_,?_⟩
   ·simp [results,Tryz.results113,go_sem,HR1.out]
   ·refine ⟨?_,?_⟩
    ·rw [HQ.out,HK.out,hz]
    ·rw [HQ.out,HK.out,hz];exact Zv.out
  ·obtain ⟨⟨z,Qom⟩,hf5,hl5,_⟩:=Qzi.out.dead Q9h.out Qj6.out Qz.out (Kp.refl (λi=>i=b0+1) w3) (by exact Qzl.out) true;have hce:=Q8w (b0+1) 0 k ⟨b0,0,none⟩ l (.int .i64 0) z [] w3 g1 f1 hl3 g0 (by show b0<_;omega) (by show ¬b0=b0+1;omega) Qom hf5 hl5 (by omega);refine leaves_cons (f:=188) (args:= #[.pointer (some ⟨b0+1,0,none⟩), .pointer (some ⟨b0,0,none⟩)]) (by simp) (by simp [go_sem]) ?_;refine (show CallsD Tryz.prog 188 #[.pointer (some ⟨b0+1,0,none⟩), .pointer (some ⟨b0,0,none⟩)] (.panicking (Q9t (k:Int))) w3 _ from hce).mono ?_;rintro e u' w'' ⟨rfl,rfl,o,rfl⟩;have k4:Kp (λi=>i=b0+1) w3 ((w3.drew.setCell ⟨b0+1,0,none⟩ (.int .i64 (k:Int))).alloc o):=(((Kp.refl (λi=>i=b0+1) w3).drew).setCell (p:=⟨b0+1,0,none⟩) (.inl rfl) _).alloc _;have hno:Kp No (w3.drew.setCell ⟨b0+1,0,none⟩ (.int .i64 (k:Int))) ((w3.drew.setCell ⟨b0+1,0,none⟩ (.int .i64 (k:Int))).alloc o):=zK.alloc _
   have q1:((w3.drew.setCell ⟨b0+1,0,none⟩ (.int .i64 (k:Int))).alloc o).cell? ⟨b0+1,0,none⟩=some (.int .i64 (k:Int)):=by
    rw [hno.cell (p:=⟨b0+1,0,none⟩) (by simpa using hl3) (λx=>x)];simp [go_sem,g1]
   obtain ⟨_,_,_,hfin⟩:=Qzi.out.dead Q9h.out Qj6.out Qz.out k4 (by exact Qzl.out) true;obtain ⟨w4,hw4⟩: ∃W,W=(w3.drew.setCell ⟨b0+1,0,none⟩ (.int .i64 (k:Int))).alloc o:=⟨_,rfl⟩;rw [<-hw4] at q1 hfin⊢;refine ⟨.int .i64 (k:Int),?_,?_⟩
   ·simp [results,Tryz.results113,go_sem,q1]
   ·refine ⟨?_,?_⟩
    ·rw [HQ.out,HK.out]
    ·rw [HQ.out,HK.out];have hkz:decide ((k:Int)≠0)=true:=decide_eq_true hz;rw [hkz];exact hfin
structure Qxm (w W2:World) (d l b0:Nat) (F G:Nat->Prop):Prop where
 k2:Kp No w W2
 Quj:b0=w.heap.size
 size:W2.heap.size=b0+3
 p0:W2.cell? ⟨b0,0,none⟩=some (.pointer (some ⟨l,0,none⟩))
 p1:W2.cell? ⟨b0+1,0,none⟩=some (.int .i64 0)
 f1:W2.frozen? ⟨b0+1,0,none⟩=false
 p2:W2.cell? ⟨b0+2,0,none⟩=some (.int .i64 0)
 f2:W2.frozen? ⟨b0+2,0,none⟩=false
 ll:l<b0
 hF: ∀k,F k->k<w.heap.size
 hG: ∀k,G k->k<w.heap.size
theorem Qxm.cells {w W2 wx:World} {d l b0:Nat} {F G:Nat->Prop} (h:Qxm w W2 d l b0 F G) (hk:Kp (Xp F G) W2 wx):
  wx.cell? ⟨b0,0,none⟩=some (.pointer (some ⟨l,0,none⟩))/\wx.cell? ⟨b0+1,0,none⟩=some (.int .i64 0)/\wx.frozen? ⟨b0+1,0,none⟩=false/\wx.cell? ⟨b0+2,0,none⟩=some (.int .i64 0)/\wx.frozen? ⟨b0+2,0,none⟩=false/\b0+2<wx.heap.size:=by
 have h0:=h.Quj;have hs:=h.size
 have hn: ∀k,b0<=k-> ¬Xp F G k:=λk hk hb=>by
  rcases hb with hb|hb
  ·have:=h.hF k hb;omega
  ·have:=h.hG k hb;omega
 refine ⟨(hk.cell (p:=⟨b0,0,none⟩) (by show b0<_;omega) (hn _ (Nat.le_refl _))).trans h.p0,(hk.cell (p:=⟨b0+1,0,none⟩) (by show b0+1<_;omega) (hn _ (by show b0<=b0+1;omega))).trans h.p1,
  (hk.frozen (p:=⟨b0+1,0,none⟩) (by show b0+1<_;omega) (hn _ (by show b0<=b0+1;omega))).trans h.f1,(hk.cell (p:=⟨b0+2,0,none⟩) (by show b0+2<_;omega) (hn _ (by show b0<=b0+2;omega))).trans h.p2,
  (hk.frozen (p:=⟨b0+2,0,none⟩) (by show b0+2<_;omega) (hn _ (by show b0<=b0+2;omega))).trans h.f2,by have:=hk.size;omega⟩
theorem Ze.kp {w a:World} {d l:Nat} {P:ByteArray} {F G:Nat->Prop} {s':Qu} {st':J2} (h:Ze w d l P F G s' st' a):Kp (Xp F G) w a:=by
 obtain ⟨_,_,_,_,_,h⟩:=h;exact h
theorem Ze.from {w W2 a:World} {d l:Nat} {P:ByteArray} {F G:Nat->Prop} {s':Qu} {st':J2} (h:Ze W2 d l P F G s' st' a) (hk:Kp No w W2):Ze w d l P F G s' st' a:=by
 obtain ⟨F',G',h1,h2,h3,h4⟩:=h;exact ⟨F',G',h1,λk hk'=>(h2 k hk').imp id λh=>Nat.le_trans hk.size h,λk hk'=>(h3 k hk').imp id λh=>Nat.le_trans hk.size h,(Kp.of_no hk).trans_same h4⟩
theorem Cs {w W2 wx:World} {d l b0:Nat} {P:ByteArray} {F G:Nat->Prop} {s1:Qu} {st1:J2} (h:Qxm w W2 d l b0 F G) (hS:Ze W2 d l P F G s1 st1 wx) (kn:Nat) (tmps:Array Value) (h4:tmps.getD 4 undef= .pointer (some ⟨b0+1,0,none⟩)) (h5:tmps.getD 5 undef= .pointer (some ⟨b0+2,0,none⟩)) (R:Ending->World->Prop)
  (hR: ∀w'',Ze w d l P F G s1 {st1 with dead:=(kn:Int) !=6} w''->R (.returned (.tuple #[.int .i64 0, .int .i64 (kn:Int)])) w''):
  Leaves Tryz.prog Tryz.f112 tmps R [{target:= .fn (.func 183) #[.pointer (some ⟨b0+2,0,none⟩), .pointer (some ⟨b0+1,0,none⟩), .pointer (some ⟨b0,0,none⟩)],args:= #[]}] (.panicking (Q9t (kn:Int))) wx:=by
 obtain ⟨c0,c1,g1,c2,g2,hs⟩:=h.cells hS.kp;have h0:=h.Quj;have hll:=h.ll;have hsz:=h.size;have hT: ∀i,(i=b0+1\/i=b0+2)->w.heap.size<=i/\(i<W2.heap.size\/wx.heap.size<=i):=λi hi=>by omega
 obtain ⟨⟨z,Qom⟩,hf5,hl5,_⟩:=hS.dead h.hF h.hG h.k2 (Kp.refl (λi=>i=b0+1\/i=b0+2) wx) hT true;refine leaves_cons (f:=183) (args:= #[.pointer (some ⟨b0+2,0,none⟩), .pointer (some ⟨b0+1,0,none⟩), .pointer (some ⟨b0,0,none⟩)]) (by simp) (by simp [go_sem]) ?_
 refine (show CallsD Tryz.prog 183 #[.pointer (some ⟨b0+2,0,none⟩), .pointer (some ⟨b0+1,0,none⟩), .pointer (some ⟨b0,0,none⟩)] (.panicking (Q9t (kn:Int))) wx _ from
  Qbe (b0+2) 0 kn l ⟨b0+1,0,none⟩ ⟨b0,0,none⟩ (.int .i64 0) (.int .i64 0) z [] wx c2 g2 hs c1 g1 (by show b0+1<_;omega) (by show ¬b0+1=b0+2;omega) c0 (by show b0<_;omega) (by show ¬b0=b0+2;omega) Qom hf5 hl5 (by omega) (by show ¬l=b0+1;omega)).mono ?_
 rintro e u' w'' ⟨rfl,rfl,o,rfl⟩;have k1:Kp (λi=>i=b0+1\/i=b0+2) wx ((wx.setCell ⟨b0+2,0,none⟩ (.int .i64 (kn:Int))).alloc o):=((Kp.refl (λi=>i=b0+1\/i=b0+2) wx).setCell (p:=⟨b0+2,0,none⟩) (.inl (.inr rfl)) _).alloc _;have hno:Kp No (wx.setCell ⟨b0+2,0,none⟩ (.int .i64 (kn:Int))) ((wx.setCell ⟨b0+2,0,none⟩ (.int .i64 (kn:Int))).alloc o):=zK.alloc _
 have q2:((wx.setCell ⟨b0+2,0,none⟩ (.int .i64 (kn:Int))).alloc o).cell? ⟨b0+2,0,none⟩=some (.int .i64 (kn:Int)):=by
  rw [hno.cell (p:=⟨b0+2,0,none⟩) (by simpa using hs) (λx=>x)];simp [go_sem,c2]
 have k1':Kp (One (b0+2)) wx ((wx.setCell ⟨b0+2,0,none⟩ (.int .i64 (kn:Int))).alloc o):=((Kp.refl (One (b0+2)) wx).setCell (p:=⟨b0+2,0,none⟩) (.inl rfl) _).alloc _;have q1:((wx.setCell ⟨b0+2,0,none⟩ (.int .i64 (kn:Int))).alloc o).cell? ⟨b0+1,0,none⟩=some (.int .i64 0):=(k1'.cell (p:=⟨b0+1,0,none⟩) (by show b0+1<_;omega) (by show ¬b0+1=b0+2;omega)).trans c1;obtain ⟨w4,hw4⟩: ∃W,W=(wx.setCell ⟨b0+2,0,none⟩ (.int .i64 (kn:Int))).alloc o:=⟨_,rfl⟩;rw [<-hw4] at q1 q2 k1⊢;have k5:=k1.setCell (p:=⟨b0+1,0,none⟩) (.inl (.inl rfl)) (.int .i64 0);obtain ⟨_,_,_,hfin⟩:=hS.dead h.hF h.hG h.k2 k5 hT ((kn:Int) !=6);have r1:(w4.setCell ⟨b0+1,0,none⟩ (.int .i64 0)).cell? ⟨b0+1,0,none⟩=some (.int .i64 0):=by simp [go_sem,q1]
 have r2:(w4.setCell ⟨b0+1,0,none⟩ (.int .i64 0)).cell? ⟨b0+2,0,none⟩=some (.int .i64 (kn:Int)):=by
  have hk:=(Kp.refl (One (b0+1)) w4).setCell (p:=⟨b0+1,0,none⟩) (.inl rfl) (.int .i64 0);rw [hk.cell (p:=⟨b0+2,0,none⟩) (World.block_lt_of_cell? w4 _ q2) (by show ¬b0+2=b0+1;omega)];exact q2
 obtain ⟨w5,hw5⟩: ∃W,W=w4.setCell ⟨b0+1,0,none⟩ (.int .i64 0):=⟨_,rfl⟩;rw [<-hw5] at r1 r2 hfin⊢;have hkl:=(Kp.refl (One l) w5).setCell (p:=⟨l,5,none⟩) (.inl rfl) (.bool ((kn:Int) !=6));have t1:=(hkl.cell (p:=⟨b0+1,0,none⟩) (World.block_lt_of_cell? w5 _ r1) (by show ¬b0+1=l;omega)).trans r1;have t2:=(hkl.cell (p:=⟨b0+2,0,none⟩) (World.block_lt_of_cell? w5 _ r2) (by show ¬b0+2=l;omega)).trans r2;refine ⟨.tuple #[.int .i64 0, .int .i64 (kn:Int)],?_,hR _ hfin⟩;have h4':tmps[4]?.getD undef= .pointer (some ⟨b0+1,0,none⟩):=by rw [<-h4,Array.getD_eq_getD_getElem?]
 have h5':tmps[5]?.getD undef= .pointer (some ⟨b0+2,0,none⟩):=by rw [<-h5,Array.getD_eq_getD_getElem?]
 obtain ⟨w6,hw6⟩: ∃W,W=w5.setCell ⟨l,5,none⟩ (.bool ((kn:Int) !=6)):=⟨_,rfl⟩;rw [<-hw6] at t1 t2⊢;simp [results,Tryz.results112,go_sem,h4',h5',t1,t2]
theorem Qf5 {wx:World} {b0:Nat} {n:Int} (hp:wx.cell? ⟨b0+1,0,none⟩=some (.int .i64 n)) (he:wx.cell? ⟨b0+2,0,none⟩=some (.int .i64 0)) (tmps:Array Value) (h4:tmps.getD 4 undef= .pointer (some ⟨b0+1,0,none⟩)) (h5:tmps.getD 5 undef= .pointer (some ⟨b0+2,0,none⟩)) (R:Ending->World->Prop)
  (hR:R (.returned (.tuple #[.int .i64 n, .int .i64 0])) wx):
  Leaves Tryz.prog Tryz.f112 tmps R [{target:= .fn (.func 183) #[.pointer (some ⟨b0+2,0,none⟩), .pointer (some ⟨b0+1,0,none⟩), .pointer (some ⟨b0,0,none⟩)],args:= #[]}] .returning wx:=by
 refine leaves_cons (f:=183) (args:= #[.pointer (some ⟨b0+2,0,none⟩), .pointer (some ⟨b0+1,0,none⟩), .pointer (some ⟨b0,0,none⟩)]) (by simp) (by simp [go_sem]) ?_;refine (Qf6 ⟨b0+2,0,none⟩ ⟨b0+1,0,none⟩ ⟨b0,0,none⟩ wx).mono ?_;rintro e u' w'' ⟨rfl,rfl,rfl⟩;refine ⟨.tuple #[.int .i64 n, .int .i64 0],?_,hR⟩;have h4':tmps[4]?.getD undef= .pointer (some ⟨b0+1,0,none⟩):=by rw [<-h4,Array.getD_eq_getD_getElem?]
 have h5':tmps[5]?.getD undef= .pointer (some ⟨b0+2,0,none⟩):=by rw [<-h5,Array.getD_eq_getD_getElem?]
 simp [results,Tryz.results112,go_sem,h4',h5',hp,he]
theorem V1.J2v {w W W':World} {l d:Nat} {P:ByteArray} {sv ev:Value} {S S':List (Nat×Nat)} {E:List Row} {synced:Nat} {dead:Bool} {G:Nat->Prop} (h:V1 w W l d P sv ev S E synced dead G) (hk:Kp (λk=>sv.ownBlock=some k) W W') (ho:Own W' 243 2 sv S'.length (S'.flatMap (Ah P))):
  V1 w W' l d P sv ev S' E synced dead G:=by
 have hc:=h.c;refine h.step hk (λk hT=> .inl (.inr (.inl hT))) ⟨hk.get hc.cell λe=>(hc.Yv e).1 rfl,ho,hc.Qn.keep hk λg hg hT=>(hc.Xs hg).2.1 hT,λq hq=>(hc.each q hq).keep hk λg hg hT=>(hc.Yv hT).2.2 q hq hg⟩ λ_ x=> .inl x
theorem Qfk (x:Int):decide (x≠6)=(x !=6):=by
 by_cases h:x=6
 ·subst h;rfl
 ·rw [decide_eq_true h];simp [bne,h]
theorem Q48 (a a':Option Addr) (c c':Nat) (l l':List UInt8):Ym [⟨a,c,l⟩,⟨a',c',l'⟩]=l++l':=by simp [Ym]
theorem Zf (n:Nat) (hn:n<=1000000000000) (p:List UInt8):(Xy n p).length=(Ql n).length+p.length+12/\(Ql n).length<=6:=by
 have:=Mu hn;unfold Xy;rw [Q0h,List.length_append];omega
theorem Kh (P:ByteArray) (s:Qu) (st:J2):(J0 P s st).2.2.Qn=st.Qn/\(J0 P s st).2.2.Qk=st.Qk/\(J0 P s st).2.2.dead=st.dead:=by
 unfold J0;split
 ·split
  ·exact ⟨rfl,rfl,rfl⟩
  ·simp only
   split
   ·exact ⟨rfl,rfl,rfl⟩
   ·exact ⟨rfl,rfl,rfl⟩
 ·exact ⟨rfl,rfl,rfl⟩
theorem Q1j {P:ByteArray} {s:Qu} {st:J2} (h:Jr st=true) (hs:st.Qk≠[]):Zr P s st=J0 P s st:=by unfold Zr;rw [if_pos ⟨h,hs⟩]
theorem Q5u {P:ByteArray} {s:Qu} {st:J2} (h:st.Qk=[]):Zr P s st=(0,s,st):=by unfold Zr;rw [if_neg (λhh=>hh.2 h)]
theorem Qak {P:ByteArray} {s:Qu} {st:J2} (h:Jr st=false):Zr P s st=(0,s,st):=by unfold Zr;rw [if_neg (λhh=>by rw [h] at hh;cases hh.1)]
theorem Nd {st:J2} (h:st.Qk=[]):Jr st=true:=by unfold Jr;rw [h];rfl
theorem E6 {st:J2} {S1:List (Nat×Nat)} {z:Nat×Nat} (h:st.Qk=S1++[z]):Jr st=decide (1024<=z.2):=by
 unfold Jr;rw [h,List.getLast?_append];rfl
theorem Oj {st:J2} {S1:List (Nat×Nat)} {z:Nat×Nat} (h:st.Qk=S1++[z]):Oi st=z.1:=by
 unfold Oi;rw [h,List.getLast?_append];rfl
theorem Qf7 {P:ByteArray} {s:Qu} {st:J2} {p:List UInt8} (hd:st.dead=false) (hl:p.length<=262134) (h:(Zr P s st).1≠0):Y8 P s st p=((0,(Zr P s st).1),(Zr P s st).2.1,{(Zr P s st).2.2 with dead:=(Zr P s st).1 !=6}):=by
 unfold Y8;rw [if_neg (by rw [hd];decide),if_neg (by omega),if_neg h,Qfk]
theorem Lv {P:ByteArray} {s s1:Qu} {st st1:J2} {p:List UInt8} (hd:st.dead=false) (hl:p.length<=262134) (h:Zr P s st=(0,s1,st1)):
  Y8 P s st p=(if (Lh s1 (toN P st) (Xy (st.Qn.length+1) p)).1=0 then ((st.Qn.length+1,0),(Lh s1 (toN P st) (Xy (st.Qn.length+1) p)).2,Vk st1 p) else ((0,(Lh s1 (toN P st) (Xy (st.Qn.length+1) p)).1),(Lh s1 (toN P st) (Xy (st.Qn.length+1) p)).2,{st1 with dead:=(Lh s1 (toN P st) (Xy (st.Qn.length+1) p)).1 !=6})):=by
 unfold Y8;rw [if_neg (by rw [hd];decide),if_neg (by omega),h,if_pos rfl,<-Qfk]
theorem Lu {st:J2} {p:List UInt8} (h:Jr st=true):Vk st p={st with Qn:=st.Qn++[p],Qk:=st.Qk++[(st.Qn.length+1,0+(Xy (st.Qn.length+1) p).length)]}:=by
 unfold Vk;rw [if_pos h,Nat.zero_add]
theorem Q22 {st:J2} {p:List UInt8} {S1:List (Nat×Nat)} {z:Nat×Nat} (h:Jr st=false) (hs:st.Qk=S1++[z]):Vk st p={st with Qn:=st.Qn++[p],Qk:=S1++[(z.1,z.2+(Xy (st.Qn.length+1) p).length)]}:=by
 unfold Vk bump;rw [if_neg (by rw [h];decide),hs,List.getLast?_append];simp
def Qsv (w:World) (d l:Nat) (P:ByteArray) (F G:Nat->Prop) (r:(Nat×Int)×Qu×J2) (e:Ending) (w':World):Prop:=
 e= .returned (.tuple #[.int .i64 (r.1.1:Int), .int .i64 r.1.2])/\Ze w d l P F G r.2.1 r.2.2 w'
theorem Q6j (w:World) (d l:Nat) (P:ByteArray) (s:Qu) (st:J2) (F G:Nat->Prop) (h:Lt w d l P s st F G) (hne:st.Qk=[]->st.Qn.length<=st.synced) (Y4:Pow w) (C3: ¬F 0) (Q08: ¬G 0) (hP:P.size<=50) (hfew:st.Qn.length+1<1000000) (Q4v:st.Qk.length<=1000000) (hzb: ∀z∈st.Qk,z.2<=1000000000)
  (pa:Option Addr) (pc:Nat) (p:List UInt8) (hp: ∀W,Kp (Xp F G) w W->Rd W W.heap.size pa (u8s p)) (hpl:p.length<=1000000000):
  Calls Tryz.prog 112 #[.pointer (some ⟨l,0,none⟩), .slice pa p.length pc] w (Qsv w d l P F G (Y8 P s st p)):=by
 have hmf: ∀(fn:Fn) (first cap:Array Value) (w:World),(Instr.makeFunc fn first cap).run Tryz.prog w= .ok (.func fn first cap) w:=λ_ _ _ _=>rfl;obtain ⟨sv,ev,E,hC,hE,Bd,Ub⟩:=h.log;obtain ⟨c0,c1,c2,c3,_,c5,_⟩:=hC.cells;have hll:=Q3 hC.cell;have Q2d:=h.disk.lt;have Q2e:=h.log.lt;obtain ⟨pl,Q8g⟩: ∃pl,pl=p.length:=⟨_,rfl⟩;rw [<-Q8g] at hpl⊢;have H:=zz h;have Qef:=zz hne;have Q0c:=zz Y4;have J77:=zz (And.intro C3 Q08);have E3:=zz (And.intro hfew (And.intro Q4v hzb));have HP:=zz hp;have Dg:=zz Q8g;have HC:=zz hC;have HE:=zz hE;have Qsa:=zz Bd;have Q9h:=zz Q2d;have Qj6:=zz Q2e;have Lo:=zz c5;have J78:=zz hpl;obtain ⟨W2,hW2⟩: ∃W,W=((w.alloc (.cells #[.pointer (some ⟨l,0,none⟩)] 127)).alloc (.cells #[.int .i64 0] 3)).alloc (.cells #[.int .i64 0] 47):=⟨_,rfl⟩;have hk2:Kp No w W2:=by rw [hW2];exact (((Kp.refl No w).alloc _).alloc _).alloc _
 have C6:=c5 W2 hk2;rw [hW2] at C6;have HW2:=zz hW2;have Qz:=zz hk2;clear h hE Bd Ub hC Q2d Q2e hne Y4 C3 Q08 hfew Q4v hzb hp Q8g c5 hW2 hk2;cases hd:st.dead with
 |true=>
  have HQ:=zz (show Y8 P s st p=((0,9),s,st) by unfold Y8;rw [if_pos hd]);rw [hd] at C6;clear hd;go_enter_defers Tryz.func112,Tryz.ntmps112
  go_wp2_with fail
  refine Na (v:= .tuple #[.int .i64 0, .int .i64 9]) rfl (by simp [results,Tryz.results112,go_sem]) ⟨by rw [HQ.out];rfl,?_⟩;rw [HQ.out];exact Ze.here H.out ((((Kp.refl No w).alloc _).alloc _).alloc _)
 |false=>
  by_cases hlong:262134<pl
  ·have HQ:=zz (show Y8 P s st p=((0,5),s,st) by unfold Y8;rw [if_neg (by rw [hd];decide),if_pos (by rw [<-Dg.out];exact hlong)]);have e1:decide ((262134:Int)<(pl:Int))=true:=by rw [decide_eq_true_iff];omega
   rw [hd] at C6;clear hd;go_enter_defers Tryz.func112,Tryz.ntmps112
   go_wp2_with fail
   refine Na (v:= .tuple #[.int .i64 0, .int .i64 5]) rfl (by simp [results,Tryz.results112,go_sem]) ⟨by rw [HQ.out];rfl,?_⟩;rw [HQ.out];exact Ze.here H.out ((((Kp.refl No w).alloc _).alloc _).alloc _)
  ·have e1:decide ((262134:Int)<(pl:Int))=false:=by rw [decide_eq_false_iff_not];omega
   have HD:=zz hd;rw [hd] at C6;clear hd;have hpl2:p.length<=262134:=by rw [<-Dg.out];omega
   have Uf:=zz hpl2;obtain ⟨b0,hb0⟩: ∃b0,b0=w.heap.size:=⟨_,rfl⟩;have hsz:W2.heap.size=b0+3:=by rw [HW2.out,hb0];simp
   have hAW:Qxm w W2 d l b0 F G:=by
    refine ⟨Qz.out,hb0,hsz,?_,?_,?_,?_,?_,by rw [hb0];exact hll,Q9h.out,Qj6.out⟩<;>(rw [HW2.out,hb0];simp [go_sem])
   have Q6u:=zz hAW;have HB0:=zz hb0;have Quv:=Q6u.out.cells (Kp.refl (Xp F G) W2);have hp0:=Quv.1;have hC2:=HC.out.Q5 Qz.out;have Qqw:=Qz.out.lt hll;obtain ⟨d0,d1,d2,d3,_,_,_⟩:=hC2.cells;obtain ⟨ea,ec,rfl,Qjl,_⟩:=hC2.Qn.rd;obtain ⟨en,hen⟩: ∃en,en=E.length:=⟨_,rfl⟩;rw [<-hen] at d3;obtain ⟨k1,hk1⟩: ∃k1,k1=en+1:=⟨_,rfl⟩;have Qsr:st.Qn.length+1=k1:=by rw [hk1,hen,HE.out,List.length_map]
   have hw1:wrap64 ((en:Int)+1)=(k1:Int):=by
    have:=E3.out.1;rw [IntWalk.wrap64_in _ (by omega),hk1];push_cast
    rfl
   have hnm:=Qdb P (by omega) k1 (by rw [<-Qsr];exact E3.out.1) W2 (Q0c.out.keep Qz.out);have J02:=d0 W2 zK;have J03:=d1 W2 zK;have Qnp:=d2 W2 zK;have J04:=d3 W2 zK;have Q04:=zz hnm;have Q03:=zz Qsr;have Qj4:=zz hen;have HC2:=zz hC2;clear hb0 hsz hAW Quv hC2 d0 d1 d2 d3 Qjl hen hk1 Qsr hnm hpl2;rcases List.eq_nil_or_concat st.Qk with hsg|⟨S1,z,hsg⟩
   obtain ⟨sa,sc,rfl,_⟩:=HC2.out.Qk.rd;have Q20:=zz hsg;rw [hsg] at Qnp;have hl0:([]:List (Nat×Nat)).length=0:=rfl;rw [hl0] at Qnp;clear hsg hl0;go_enter_defers Tryz.func112,Tryz.ntmps112
   go_upto_region 8 with fail
   rw [<-HW2.out,<-HB0.out];clear C6;go_upto_region 11 with fail
   go_wp2_with fail
   have hc:=Q04.out;with_reducible refine hc.mono ?_
   rintro e w3 ⟨rfl,hk3⟩;clear hc Q04;have Qxb:=(hk3.cell (p:=⟨b0,0,none⟩) (by show b0<_;have:=Q6u.out.size;omega) (λx=>x)).trans hp0;have d23:=(hk3.cell (p:=⟨l,2,none⟩) Qqw (λx=>x)).trans Qnp;go_upto_region 16 with fail
   obtain ⟨s1,hs1⟩: ∃s1,s1=s:=⟨_,rfl⟩;obtain ⟨st1,hst1⟩: ∃st1,st1=st:=⟨_,rfl⟩;have Cm:=zz (show Ze W2 d l P F G s1 st1 w3 from by rw [hs1,hst1];exact Ze.here (H.out.no Qz.out) hk3);have Qej:=zz (show Zr P s st=(0,s1,st1) from by rw [hs1,hst1];exact Q5u Q20.out);have HST:=zz (show st1.Qn=st.Qn/\st1.Qk=st.Qk from by rw [hst1];exact ⟨rfl,rfl⟩);clear hs1 hst1;have Hw:=zz (Nd Q20.out);obtain ⟨tn,htn⟩: ∃tn,tn=Eh P k1:=⟨_,rfl⟩;have Q7f:=zz (show tn=toN P st by unfold toN;rw [if_pos Hw.out,Q03.out];exact htn);rw [<-htn];clear htn hk3 J02 J03 Qnp J04 hp0 hw1 Qxb d23;rename World=>wx;rotate_left;rw [List.concat_eq_append] at hsg;have Q2c:=HC2.out;rw [hsg] at Q2c;obtain ⟨sg,L5,sn,sc,rfl,hsn,Qlg,Q8h,_,G7,hsc1⟩:=Vx.Q2t Q2c;obtain ⟨m2,hm2⟩: ∃m2,m2=S1.length:=⟨_,rfl⟩;rw [<-hm2] at hsn G7 hsc1;have hms:m2<sn:=by omega
   have hw3:(sn:Int)-1=(m2:Int):=by omega
   obtain ⟨zb,Qrg⟩: ∃zb,zb=z.2:=⟨_,rfl⟩;have Qa9:=G7 W2 zK;have Qh1:=hsc1 W2 zK;rw [<-Qrg] at Qh1;obtain ⟨zn,hzn⟩: ∃zn,zn=Eh P z.1:=⟨_,rfl⟩;rw [<-hzn] at Qa9;have Qx0:z.2<=1000000000:=E3.out.2.2 z (by rw [hsg];simp);have Qnm:=zz Qx0;have Q20:=zz hsg;have Qzr:=zz hzn;have Qua:=zz Qrg;have J6j:=zz Q2c;have Qty:=zz G7;clear Q2c hsn hm2 Qx0 hsg hzn Qrg G7 hsc1;by_cases hfr:1024<=zb
   have e4:decide ((1024:Int)<=(zb:Int))=true:=by rw [decide_eq_true_iff];omega
   have Hw:=zz (show Jr st=true by rw [E6 Q20.out,<-Qua.out];exact decide_eq_true hfr);have Qek:=zz (Q1j (P:=P) (s:=s) Hw.out (by rw [Q20.out];simp));clear hfr;go_enter_defers Tryz.func112,Tryz.ntmps112
   go_upto_region 8 with fail
   rw [<-HW2.out,<-HB0.out];clear C6;go_upto_region 11 with fail
   go_wp2_with fail
   have hc:=Q04.out;with_reducible refine hc.mono ?_
   rintro e w3 ⟨rfl,hk3⟩;clear hc Q04;have Qxb:=(hk3.cell (p:=⟨b0,0,none⟩) (by show b0<_;have:=Q6u.out.size;omega) (λx=>x)).trans hp0;have d23:=(hk3.cell (p:=⟨l,2,none⟩) Qqw (λx=>x)).trans Qnp;have hsy:=Q1n w3 d l P s st F G (H.out.no (Qz.out.trans_same hk3)) Qef.out;obtain ⟨qs,Qod⟩: ∃qs,qs=J0 P s st:=⟨_,rfl⟩;obtain ⟨kn,hkn⟩:=Il P s st;have hsame:=Kh P s st;rw [<-Qod] at hsy hkn hsame;have M7:=zz (show Zr P s st=qs by rw [Qod];exact Qek.out);have M9:=zz hsame;have Dn:=zz hkn;have Zj:=zz hk3;clear Qod Qek hkn hsame hk3;go_upto_region 13 with fail
   go_wp2_with fail
   with_reducible refine hsy.mono ?_
   rintro e w4 ⟨hs4,Ql3⟩;clear hsy;have Q2j:Ze W2 d l P F G qs.2.1 qs.2.2 w4:=hs4.from Zj.out
   have Cm:=zz Q2j;clear hs4 Q2j;rw [Dn.out] at Ql3;rcases Ql3 with ⟨hz,rfl⟩|⟨hz,rfl⟩
   rotate_left
   ·have hap:=Qf7 (p:=p) HD.out Uf.out (show (Zr P s st).1≠0 by rw [M7.out,Dn.out];exact hz);rw [M7.out,Dn.out] at hap;refine Cs Q6u.out Cm.out kn _ rfl rfl _ λw'' hw''=>?_;rw [hap];exact ⟨rfl,hw''⟩
   rotate_right;obtain ⟨s1,hs1⟩: ∃s1,s1=qs.2.1:=⟨_,rfl⟩;obtain ⟨st1,hst1⟩: ∃st1,st1=qs.2.2:=⟨_,rfl⟩;rw [<-hs1,<-hst1] at Cm;have Qej:=zz (show Zr P s st=(0,s1,st1) from by rw [M7.out,hs1,hst1,<-hz,<-Dn.out]);have HST:=zz (show st1.Qn=st.Qn/\st1.Qk=st.Qk from by rw [hst1];exact ⟨M9.out.1,M9.out.2.1⟩);obtain ⟨tn,htn⟩: ∃tn,tn=Eh P k1:=⟨_,rfl⟩;have Q7f:=zz (show tn=toN P st by unfold toN;rw [if_pos Hw.out,Q03.out];exact htn);rw [<-htn];clear htn hs1 hst1 hz M7 M9 Dn J02 J03 Qnp J04 hp0 hw1 Qxb d23 Qa9 Qh1;go_upto_region 16 with fail
   rename World=>wx;rotate_left;have e4:decide ((1024:Int)<=(zb:Int))=false:=by rw [decide_eq_false_iff_not];omega
   have Hw:=zz (show Jr st=false by rw [E6 Q20.out,<-Qua.out];exact decide_eq_false hfr);clear hfr;go_enter_defers Tryz.func112,Tryz.ntmps112
   go_upto_region 8 with fail
   rw [<-HW2.out,<-HB0.out];clear C6;go_upto_region 11 with fail
   go_wp2_with fail
   have hc:=Q04.out;with_reducible refine hc.mono ?_
   rintro e w3 ⟨rfl,hk3⟩;clear hc Q04;have Qxb:=(hk3.cell (p:=⟨b0,0,none⟩) (by show b0<_;have:=Q6u.out.size;omega) (λx=>x)).trans hp0;have d23:=(hk3.cell (p:=⟨l,2,none⟩) Qqw (λx=>x)).trans Qnp;have J1v:=(hk3.cell (p:=⟨sg,L5+m2*2,none⟩) Q8h (λx=>x)).trans Qa9;go_upto_region 16 with fail
   obtain ⟨s1,hs1⟩: ∃s1,s1=s:=⟨_,rfl⟩;obtain ⟨st1,hst1⟩: ∃st1,st1=st:=⟨_,rfl⟩;have Cm:=zz (show Ze W2 d l P F G s1 st1 w3 from by rw [hs1,hst1];exact Ze.here (H.out.no Qz.out) hk3);have Qej:=zz (show Zr P s st=(0,s1,st1) from by rw [hs1,hst1];exact Qak Hw.out);have HST:=zz (show st1.Qn=st.Qn/\st1.Qk=st.Qk from by rw [hst1];exact ⟨rfl,rfl⟩);clear hs1 hst1;obtain ⟨tn,htn⟩: ∃tn,tn=zn:=⟨_,rfl⟩;have Q7f:=zz (show tn=toN P st by unfold toN;rw [if_neg (by rw [Hw.out];decide),Oj Q20.out,htn];exact Qzr.out);rw [<-htn];clear htn hk3 J02 J03 Qnp J04 hp0 hw1 Qxb d23 J1v Qa9 Qh1;rename World=>wx;rotate_left
   all_goals
    have hkx:=Cm.out.kp;have J94:=Q6u.out.cells hkx;have hwx:Kp (Xp F G) w wx:=(Kp.of_no Qz.out).trans_same hkx;have hpx:=HP.out wx hwx;have Qp9:=zz hpx;have Xq:=zz hkx;have Ja7:=zz hwx;obtain ⟨bw,hbw⟩: ∃bw,bw=wx.heap.size:=⟨_,rfl⟩;obtain ⟨W4,Ng⟩: ∃W,W=(wx.alloc (.cells #[.slice none 0 0] 121)).alloc (.cells #[.int .i64 (k1:Int)] 3):=⟨_,rfl⟩;have k4:Kp No wx W4:=by rw [Ng];exact (zK.alloc _).alloc _
    have hb4:W4.heap[bw]?=some (.cells #[.slice none 0 0] 121 (0,0)):=by
     rw [Ng,hbw];exact J6 (heap_alloc_new wx _) _
    have hg4:W4.cell? ⟨bw+1,0,none⟩=some (.int .i64 (k1:Int)):=by rw [Ng,hbw];simp [go_sem]
    have Ni:k1<=1000000000000:=by rw [<-Q03.out];have:=E3.out.1;omega
    have Es:=Qpl W4 bw (bw+1) 1 k1 Ni hb4 hg4;have Dt:=zz Es;have Ox:=zz k4;have Qk4:=zz Ng;have J3b:=zz hbw;have O1:=zz Ni;clear hkx hwx hpx k4 hb4 hg4 Es Ng hbw Ni J94;go_upto_region 17 with fail
    go_wp2_with fail
    rw [<-J3b.out,<-Qk4.out];have hc:=Dt.out;with_reducible refine hc.mono ?_
    rintro e w5 ⟨rfl,na,nc,hb5,Qgp,hf5,hk5⟩;clear hc Dt;have Qvt:Kp No wx w5:=Ox.out.trans hk5 λi hi (e:i=bw)=>by have:=J3b.out;omega
    have hou:=Oy w5 bw na nc (Ql k1) hb5 Qgp.rd' (by have:=(Zf k1 O1.out p).2;omega);have Q3u:=zz hou;have Qta:=zz Qvt;clear hb5 Qgp hf5 hk5 Qvt hou;go_upto_region 18 with fail
    go_wp2_with fail
    have hc:=Q3u.out;with_reducible refine hc.mono ?_
    rintro e w6 ⟨oa,oc,rfl,Bh,Qql,hk6⟩;clear hc Q3u;have J5j:=Qp9.out.kp (Qta.out.trans_same hk6);have Qra:=La w6 42 oa pa oc pc (Ql k1) p Bh.rd' J5j (by have:=(Zf k1 O1.out p).2;omega) (by have:=Uf.out;omega);obtain ⟨W7,Qjj⟩: ∃W,W=w6.alloc (.cells #[.slice oa (Ql k1).length oc, .slice pa p.length pc] 42):=⟨_,rfl⟩
    have hen:Calls Tryz.prog 186 #[.slice (some ⟨w6.heap.size,0,none⟩) 2 2] W7 (J34 W7 (Ql k1++p)):=by
     have h:=Q74 W7 (some ⟨w6.heap.size,0,none⟩) 2 [⟨oa,oc,Ql k1⟩,⟨pa,pc,p⟩] (by rw [Qjj];exact Qra.1) (Nat.le_refl _) (by show 2<=_;omega) (by
      rw [Q48,List.length_append];have:=(Zf k1 O1.out p).2;have:=Uf.out;omega)
     rw [Q48] at h;exact h
    have Qc2:Kp No w6 W7:=by rw [Qjj];exact Qra.2
    obtain ⟨nl,hnl⟩: ∃nl,nl=(Ql k1).length:=⟨_,rfl⟩;rw [<-hnl,<-Dg.out] at Qjj;rw [<-hnl];have Qj4:=zz hen;have Q3j:=zz ((Qta.out.trans_same hk6).trans_same Qc2);have Qpg:=zz Qjj;clear J5j Qra hen Qc2 hnl Qjj Bh Qql hk6;go_wp2_with fail
    rw [<-Qpg.out];have hc:=Qj4.out;with_reducible refine hc.mono ?_
    rintro e w8 ⟨fa,fc,rfl,Qgu,hk8⟩;clear hc Qj4;have Oe:Kp No wx w8:=Q3j.out.trans_same hk8;obtain ⟨F1,G1,hW1,hF1,hG1,hK1⟩:=Cm.out;have hc8:=Q6u.out.cells (Xq.out.trans_no Oe);have J1o:=hc8.1;have J88:=hW1.log.Q5 Oe;obtain ⟨Qsu,Qsm,Ex,Q80,Qpz,_,_⟩:=J88;have J1d:=Q80.cells.1 w8 zK;have Q8c:=Q3 Q80.cell;have J0x:b0<w8.heap.size:=by have:=hc8.2.2.2.2.2;omega
    have hgo:=Q9z w8
    have hwr:=Qb9 w8 d s1 F1 (hW1.disk.Q5 Oe) tn fa fc (Xy k1 p) Qgu (by
     have:=(Zf k1 O1.out p);have:=Uf.out;omega)
    obtain ⟨q,hq⟩: ∃q,q=Lh s1 tn (Xy k1 p):=⟨_,rfl⟩;have hqc:=Ch s1 tn (Xy k1 p);rw [<-hq] at hwr hqc;obtain ⟨fl,hfl⟩: ∃fl,fl=(Xy k1 p).length:=⟨_,rfl⟩;rw [show (Jc (Ql k1++p)).length=fl from hfl.symm];rw [<-hfl] at hwr;have Ff:=zz hwr;have HQ:=zz hq;have Qaz:=zz hfl;have Hx:=zz Oe;have HW1:=zz (And.intro hW1 (And.intro hF1 (And.intro hG1 hK1)));clear Qgu hk8 Oe hW1 hF1 hG1 hK1 hc8 Q80 Qpz hwr hq hfl;go_wp2_with fail
    with_reducible refine hgo.mono ?_
    rintro e w9 ⟨rfl,rfl⟩;clear hgo;go_wp2_with fail
    have hc:=Ff.out;with_reducible refine hc.mono ?_
    rintro e w9 ⟨rfl,F9,J4x,I4,hK9⟩;clear hc Ff;obtain ⟨qc,hqe⟩: ∃qc,qc=q.1:=⟨_,rfl⟩;rw [<-hqe] at hqc⊢;have hga:=Q4e qc hqc.1 hqc.2 w9;have J56:Ze W2 d l P F G q.2 st1 w9:=Ze.trans ⟨F1,G1,HW1.out.1,HW1.out.2.1,HW1.out.2.2.1,HW1.out.2.2.2,F9,G1,(HW1.out.1.no Hx.out).Av J4x I4 hK9,λk hk=>(I4 k hk).imp id λh=>Nat.le_trans Hx.out.size h,Qv.refl _ _,((Kp.of_no Hx.out).trans_same hK9).mono λ_ _ x=> .inl x⟩;have J40:=zz J56;have Q06:=zz hqe;clear J4x I4 hK9 J56 hqe J1o J1d Q8c J0x;go_wp2_with fail
    with_reducible refine hga.mono ?_
    rintro e w' ⟨Ql3,rfl⟩;clear hga;rcases Ql3 with ⟨hz,rfl⟩|⟨hz,rfl⟩
    rotate_left
    ·obtain ⟨kn,hkn⟩:=Int.eq_ofNat_of_zero_le hqc.1;have hap:=Lv (p:=p) HD.out Uf.out Qej.out;rw [Q03.out,<-Q7f.out,<-HQ.out,if_neg (by rw [<-Q06.out];exact hz),<-Q06.out,hkn] at hap;rw [hkn];refine Cs Q6u.out J40.out kn _ rfl rfl _ λw'' hw''=>?_;rw [hap];exact ⟨rfl,hw''⟩
    obtain ⟨F2,G2,Qq8,hF2,hG2,Qq3⟩:=J40.out;obtain ⟨J2z,J09,E9,Ul,Qa2,_⟩:=V1.start Qq8.log;have Qjk:=Q6u.out.cells Qq3;have J82:=Qjk.1;have hs9:=Qjk.2.2.2.2.2;have h0:=Q6u.out.Quj;have hsz:=Q6u.out.size;have J8s:=Q6u.out.ll
    have hgb: ∀k,G2 k->k<b0\/b0+2<k:=λk hk=>by
     rcases hG2 k hk with h1|h1
     ·have:=Qj6.out k h1;omega
     ·omega
    have hGn: ∀i,b0<=i->i<=b0+2-> ¬G2 i:=λi h1 h2 h3=>by have:=hgb i h3;omega
    have HB:=zz (And.intro Qq8 (And.intro hF2 (And.intro hG2 (And.intro Qq3 Qa2))));have Q3i:=zz hGn;have Xw:=zz Ul;have Q77:=zz Qjk;clear Qq8 hF2 hG2 Qq3 Qa2 hgb hGn Ul Qjk h0 hsz;obtain ⟨Q09,Q0a,rfl,_,_⟩:=Xw.out.c.Qk.rd;obtain ⟨Nz,M0,rfl,_,_⟩:=Xw.out.c.Qn.rd;obtain ⟨Ei,Bf⟩: ∃Ei,Ei=E9.length:=⟨_,rfl⟩;have Lp:=zz Bf;have Qg5:b0<w9.heap.size:=by omega
    have Oc:Ei<=1000000:=by
     have h1:=HB.out.2.2.2.2;have h2:=congrArg List.length h1;rw [List.length_map,HST.out.1] at h2;have h3:=E3.out.1;omega
    have Ck:=zz Oc;clear Bf Oc
   iterate 2
    obtain ⟨Gw,Uy⟩: ∃Gw,Gw=st1.Qk.length:=⟨_,rfl⟩;have Qoh:Gw<=1000000:=by rw [Uy,HST.out.2];exact E3.out.2.1
    have Qgm:=Q3 Xw.out.c.cell
    have Ql8: ∀k,(Value.slice Q09 Gw Q0a).ownBlock=some k->k≠l/\ ¬k=b0/\k<w9.heap.size:=λk hk=>by
     rw [Uy] at hk;refine ⟨(Xw.out.c.Yv hk).1,λe=>?_,Xw.out.c.Qk.lt k hk⟩;rcases Xw.out.foot k (.inr (.inl hk)) with h1|h1
     ·exact Q3i.out k (by omega) (by omega) h1
     ·have:=Xw.out.c.Qk.lt k hk;omega
    have hS0: ∀W,Kp (λk=>(Value.slice Q09 Gw Q0a).ownBlock=some k) w9 W->W.cell? ⟨b0,0,none⟩=some (.pointer (some ⟨l,0,none⟩)):=λW hW=>(hW.cell (p:=⟨b0,0,none⟩) Qg5 (λh=>(Ql8 b0 h).2.1 rfl)).trans J82
    have hS2: ∀W,Kp (λk=>(Value.slice Q09 Gw Q0a).ownBlock=some k) w9 W->W.cell? ⟨l,2,none⟩=some (.slice Q09 Gw Q0a):=λW hW=>by
     rw [hW.cell (p:=⟨l,2,none⟩) Qgm (λh=>(Ql8 l h).1 rfl),Q0 Xw.out.c.cell,Uy];rfl
    have Qsp: ∀W,Kp (λk=>(Value.slice Q09 Gw Q0a).ownBlock=some k) w9 W->W.frozen? ⟨l,2,none⟩=false:=λW hW=>by
     rw [hW.frozen (p:=⟨l,2,none⟩) Qgm (λh=>(Ql8 l h).1 rfl)];exact Qc Xw.out.c.cell 2
    have Qpf:=zz Uy;clear Uy;go_upto_region 22 with fail
    refine J4 (Kp (λk=>(Value.slice Q09 Gw Q0a).ownBlock=some k) w9) [0,0,0,0,0,0,0,2,2,0,0,2] [0,1,2,3,4,5,6,7,8,9,10] 11 (by kernel_rfl) (by kernel_rfl) (λ_ n h=>h.drewN n) zK ?_;repeat (first|refine zA ?_|refine zB ?_|refine zC ?_)
    refine Q4 rfl rfl (λn7=>?_);go_wp2_with fail
    obtain ⟨w10,Qli⟩: ∃W,W=(w9.drewN n7).alloc (.cells #[.string tn, .int .i64 0] 243):=⟨_,rfl⟩;have Qur:w10.heap[w9.heap.size]?=some (.cells #[.string tn, .int .i64 0] 243 (0,0)):=by rw [Qli];exact heap_alloc_new (w9.drewN n7) _
    have k10:Kp No w9 w10:=by rw [Qli];exact (zK.drewN n7).alloc _
    rw [<-Qli];clear Qli;refine ⟨Kp.of_no k10,?_⟩;refine Q4 rfl rfl (λn8=>?_);have hlr:V1 w9 (w10.drewN n8) l d P (.slice Q09 Gw Q0a) (.slice Nz E9.length M0) st1.Qk E9 st1.synced st1.dead G2:=by rw [Qpf.out];exact Xw.out.no (k10.drewN n8)
    have hos:Own (w10.drewN n8) 243 2 (.slice Q09 Gw Q0a) Gw (st1.Qk.flatMap (Ah P)):=by have:=hlr.c.Qk;rw [<-Qpf.out] at this;exact this
    have Qwx:tn=Eh P k1:=by
     have h1:=Q7f.out;unfold toN at h1;rw [if_pos Hw.out,Q03.out] at h1;exact h1
    obtain ⟨a',c',Le,hrn,ho',Kc,Mm⟩:=Ey (T:=239) (E:=243) (sz:=2) (bytes:=24) Tryz.underlying239 Qlk hos (news:=Ah P (k1,0)) (Qi7 P (k1,0)) rfl (g:=w9.heap.size) (cs:= #[.string tn, .int .i64 0]) Qur (by rw [Qwx];rfl) (by omega) (by omega);have kS:Kp (λk=>(Value.slice Q09 Gw Q0a).ownBlock=some k) w9 Le:=(Kp.of_no (k10.drewN n8)).trans_same Kc;have Qpc:=zz hrn;have Q7a:=zz ho';have Q1z:=zz Kc;have Qj2:=zz Mm;have Q79:=zz hlr;clear hrn ho' Kc Mm hlr hos Qwx Qur;refine wpList_append_run rfl rfl rfl rfl Qpc.out (wpList_nil ⟨rfl,kS,?_⟩);repeat (first|refine zA ?_|refine zB ?_|refine zC ?_)
    refine Yc (λn11=>?_);refine Q4 rfl rfl (λn12=>?_);obtain ⟨w12,Q2n⟩: ∃W,W=(Le.drewN n11).drewN n12:=⟨_,rfl⟩;have k12:Kp (λk=>(Value.slice Q09 Gw Q0a).ownBlock=some k) (w10.drewN n8) w12:=by rw [Q2n];exact (Q1z.out.drewN n11).drewN n12
    have Qlp:Kp (λk=>(Value.slice Q09 Gw Q0a).ownBlock=some k) w9 w12:=by rw [Q2n];exact (kS.drewN n11).drewN n12
    have Qwc:Own w12 243 2 (.slice a' (Gw+1) c') (Gw+1) (st1.Qk.flatMap (Ah P)++Ah P (k1,0)):=by rw [Q2n];exact Q7a.out
    rw [<-Q2n];have hc12:=hS2 w12 Qlp;have J15:=Qsp w12 Qlp;have hl12:=Qlp.lt Qgm;have hnew:=Q79.out.Qym (S':=st1.Qk++[(k1,0)]) (W':=w12) (sv':= .slice a' (Gw+1) c') k12 (by rw [List.length_append,List.length_singleton,<-Qpf.out,List.flatMap_append,List.flatMap_cons,List.flatMap_nil,List.append_nil];exact Qwc) Qj2.out;have Yz:=zz hnew;clear hnew Q2n k12 Qlp Qwc k10;go_wp2_with fail
    intro nr;obtain ⟨Fe,Og⟩: ∃W,W=(w12.setCell ⟨l,2,none⟩ (.slice a' (Gw+1) c')).drewN nr:=⟨_,rfl⟩;have Kr:=zz (show V1 w9 Fe l d P (.slice a' (Gw+1) c') (.slice Nz E9.length M0) (st1.Qk++[(k1,0)]) E9 st1.synced st1.dead G2 from by rw [Og];exact Yz.out.no ((Kp.refl No _).drewN nr));rw [<-Og];clear Og hc12 J15 hl12 kS hS0 hS2 Qsp Ql8 Yz Q79 Q1z Qj2 Q7a;obtain ⟨y,hy⟩: ∃y:Nat×Nat,y=(k1,0):=⟨_,rfl⟩;obtain ⟨S3,hS3⟩: ∃S,S=st1.Qk:=⟨_,rfl⟩;have Qu9:=zz (show y.2<=1000000000 by rw [hy];exact Nat.zero_le _);have Q1x:=zz (show Vk st1 p={st1 with Qn:=st1.Qn++[p],Qk:=S3++[(y.1,y.2+fl)]} by rw [hy,hS3,Lu (show Jr st1=true by unfold Jr;rw [HST.out.2];exact Hw.out),HST.out.1,Q03.out,<-Qaz.out]);rw [<-hy,<-hS3] at Kr;clear hy hS3;rotate_left
   obtain ⟨Fe,Og⟩: ∃W,W=w9:=⟨_,rfl⟩
   have Kr:Hid (V1 w9 Fe l d P (.slice Q09 st1.Qk.length Q0a) (.slice Nz E9.length M0) (S1++[z]) E9 st1.synced st1.dead G2):=by
    rw [Og];have h1:=Xw.out;have h2:st1.Qk=S1++[z]:=HST.out.2.trans Q20.out
    have h3:V1 w9 w9 l d P (.slice Q09 st1.Qk.length Q0a) (.slice Nz E9.length M0) (S1++[z]) E9 st1.synced st1.dead G2:=by
     rw [h2] at h1⊢;exact h1
    exact zz h3
   rw [<-Og];clear Og;obtain ⟨y,hy⟩: ∃y,y=z:=⟨_,rfl⟩;obtain ⟨S3,hS3⟩: ∃S,S=S1:=⟨_,rfl⟩;have Qu9:=zz (show y.2<=1000000000 by rw [hy];exact Qnm.out);have Q1x:=zz (show Vk st1 p={st1 with Qn:=st1.Qn++[p],Qk:=S3++[(y.1,y.2+fl)]} by rw [hy,hS3,Q22 (show Jr st1=false by unfold Jr;rw [HST.out.2];exact Hw.out) (HST.out.2.trans Q20.out),HST.out.1,Q03.out,<-Qaz.out]);rw [<-hy,<-hS3] at Kr;clear hy hS3
   all_goals
    obtain ⟨yb,hyb⟩: ∃yb,yb=(y:Nat×Nat).2:=⟨_,rfl⟩;have J97:yb<=1000000000:=by rw [hyb];exact Qu9.out
    obtain ⟨lg,Q5d,ln,Qlt,J1i,hln,J8t,Qw3,Qw1,_,hlc⟩:=Vx.Q2t Kr.out.c;injection J1i with hl1 hl2 hl3;rw [hl1,hl2,hl3] at Kr;obtain ⟨m3,Qqy⟩: ∃m3,m3=(S3).length:=⟨_,rfl⟩;rw [<-Qqy] at hln hlc;rw [<-hyb] at hlc;have J5h:(ln:Int)-1=(m3:Int):=by omega
    have J1j:m3<ln:=by omega
    obtain ⟨v,hv⟩: ∃v,v=yb+fl:=⟨_,rfl⟩
    have J8l:fl<=1000000:=by
     rw [Qaz.out];have:=Zf k1 O1.out p;have:=Uf.out;omega
    have hwv:=zz (show (yb:Int)+(fl:Int)=(v:Int) from by rw [hv];push_cast;rfl);have Q4p:Kp G2 w9 Fe:=Kr.out.kp
    have Qgh: ∀i,b0<=i->i<=b0+2->i<w9.heap.size-> ∀q:Addr,q.block=i->Fe.cell? q=w9.cell? q/\Fe.frozen? q=w9.frozen? q:=λi h1 h2 h3 q hq=>by
     rw [<-hq] at h1 h2 h3;exact ⟨Q4p.cell h3 (Q3i.out _ h1 h2),Q4p.frozen h3 (Q3i.out _ h1 h2)⟩
    have Qrn:Fe.cell? ⟨b0,0,none⟩=some (.pointer (some ⟨l,0,none⟩)):=((Qgh b0 (Nat.le_refl _) (by omega) Qg5 _ rfl).1).trans Q77.out.1;have Qo2:=Q4p.lt Qg5;have J5b:b0+2<Fe.heap.size:=by have:=Q4p.size;omega
    have Q0i:=Kr.out.c;have Qa8:=Q3 Q0i.cell;have g0: ∀W,Kp No Fe W->W.cell? ⟨b0,0,none⟩=some (.pointer (some ⟨l,0,none⟩)):=λW hW=>(hW.cell (p:=⟨b0,0,none⟩) Qo2 (λx=>x)).trans Qrn
    have g2: ∀W,Kp No Fe W->W.cell? ⟨l,2,none⟩=some (.slice (some ⟨lg,Q5d,none⟩) ln Qlt):=λW hW=>by
     rw [Q0 (Q0i.Q5 hW).cell];rfl
    have J6t:=zz hv;have Qz9:=zz Qqy;have E4:=zz hln;have HKB:=zz Qgh;have J6r:=zz Qw1;have J7h:=zz hyb;clear hv Qqy hln Qgh Qw1 Q4p hyb hl1 hl2 hl3 Q0i;go_upto_region 23 with fail
    refine N4 (Kp No Fe) [0,0,0,0,0,0,0,0,1,0,0,0,0,0,1,0,0,0,2] [0,1,2,3,4,5,6,7,13,8,9,10,11,12,14,15,16,17] 18 [] (by kernel_rfl) (by kernel_rfl) (λ_ n h=>h.drewN n) zK ?_;repeat (first|refine zA ?_|refine zB ?_|refine zC ?_)
    refine Q9u (λn1=>?_);refine Nw rfl ?_;obtain ⟨Qau,I5⟩: ∃W,W=Fe.drewN n1:=⟨_,rfl⟩;have Qgf:Kp No Fe Qau:=by rw [I5];exact (Kp.refl No Fe).drewN n1
    rw [<-I5];have Qw5:=hlc Qau Qgf;have Qw0:Qau.frozen? ⟨lg,Q5d+m3*2+1,none⟩=false:=(Qgf.frozen (p:=⟨lg,Q5d+m3*2+1,none⟩) Qw3 (λx=>x)).trans (J6r.out _);have Qw4:=Qgf.lt Qw3;have Qtd:=zz (Kr.out.no Qgf);obtain ⟨w16,hw16⟩: ∃W,W=Qau.setCell ⟨lg,Q5d+m3*2+1,none⟩ (.int .i64 (v:Int)):=⟨_,rfl⟩
    have Qed:=zz (show V1 w9 w16 l d P (.slice (some ⟨lg,Q5d,none⟩) ln Qlt) (.slice Nz E9.length M0) (S3++[((y:Nat×Nat).1,v)]) E9 st1.synced st1.dead G2 from by
     have hO:=Qtd.out.c.Qk;have hlen:(S3++[(y:Nat×Nat)]).length=ln:=by rw [List.length_append,List.length_singleton,<-Qz9.out,E4.out]
     rw [hlen] at hO;have h1:=Mer.Q34 hO (m3*2+1) (by omega) (.int .i64 (v:Int));have hlt:m3<(S3++[(y:Nat×Nat)]).length:=by rw [hlen];exact J1j
     have hget:(S3++[(y:Nat×Nat)])[m3]'hlt=y:=by simp [Qz9.out]
     rw [I0 (Ah P) 2 (Q66 P) _ hlt (by omega) (x:=((y:Nat×Nat).1,v)) (by rw [hget];rfl)] at h1;have hset:(S3++[(y:Nat×Nat)]).set m3 ((y:Nat×Nat).1,v)=S3++[((y:Nat×Nat).1,v)]:=by simp [Qz9.out]
     rw [hset] at h1;rw [hw16];refine Qtd.out.J2v ((Kp.refl (λk=>(Value.slice (some ⟨lg,Q5d,none⟩) ln Qlt).ownBlock=some k) Qau).setCell (p:=⟨lg,Q5d+m3*2+1,none⟩) (.inl rfl) _) ?_;rw [show (S3++[((y:Nat×Nat).1,v)]).length=ln by rw [<-hlen];simp];rw [Nat.add_assoc];exact h1)
    have Qzn:=zz hw16;clear I5 hw16 Qgf;go_wp2_with fail
    refine Q1s ?_;rw [hwv.out];rw [<-Qzn.out];clear Qw5 Qw0 Qw4 hlc g0 g2 Qrn Qo2;have Qa6:Kp G2 w9 w16:=Qed.out.kp;have Qbv:=Qed.out.c;have Qgl:=Q3 Qbv.cell
    have Qok:Kp (Xp F G) w w16:=(((Kp.of_no Qz.out).trans_same HB.out.2.2.2.1).trans (T:=G2) Qa6 λi hi hg=>by
     rcases HB.out.2.2.1 i hg with h1|h1
     ·exact .inr h1
     ·have:=Q6u.out.size;have:=Q6u.out.Quj;omega)
    have Qfz: ∀k,(Value.slice Nz Ei M0).ownBlock=some k->k≠l/\ ¬k=b0/\k<w16.heap.size:=λk hk=>by
     rw [Lp.out] at hk;refine ⟨(Qbv.Xs hk).1,λe=>?_,Qbv.Qn.lt k hk⟩;rcases Qed.out.foot k (.inr (.inr (.inl hk))) with h1|h1
     ·exact Q3i.out k (by omega) (by omega) h1
     ·omega
    have Qo3:=Qa6.lt Qg5;have p16:w16.cell? ⟨b0,0,none⟩=some (.pointer (some ⟨l,0,none⟩)):=(Qa6.cell (p:=⟨b0,0,none⟩) Qg5 (Q3i.out b0 (Nat.le_refl _) (by omega))).trans Q77.out.1;have e0: ∀W,Kp (λk=>(Value.slice Nz Ei M0).ownBlock=some k) w16 W->W.cell? ⟨b0,0,none⟩=some (.pointer (some ⟨l,0,none⟩)):=λW hW=>(hW.cell (p:=⟨b0,0,none⟩) Qo3 (λh=>(Qfz b0 h).2.1 rfl)).trans p16
    have e3: ∀W,Kp (λk=>(Value.slice Nz Ei M0).ownBlock=some k) w16 W->W.cell? ⟨l,3,none⟩=some (.slice Nz Ei M0):=λW hW=>by
     rw [hW.cell (p:=⟨l,3,none⟩) Qgl (λh=>(Qfz l h).1 rfl),Q0 Qbv.cell,Lp.out];rfl
    have J4o: ∀W,Kp (λk=>(Value.slice Nz Ei M0).ownBlock=some k) w16 W->W.frozen? ⟨l,3,none⟩=false:=λW hW=>by
     rw [hW.frozen (p:=⟨l,3,none⟩) Qgl (λh=>(Qfz l h).1 rfl)];exact Qc Qbv.cell 3
    have Qu7:=zz Qok;have J6p:=zz Qfz;clear Qok Qfz Qbv Qa6;go_upto_region 24 with fail
    refine J4 (Kp (λk=>(Value.slice Nz Ei M0).ownBlock=some k) w16) [0,0,0,0,0,0,2,2,2,0,0,2] [0,1,2,3,4,5,6,7,8,9,10] 11 (by kernel_rfl) (by kernel_rfl) (λ_ n h=>h.drewN n) zK ?_;repeat (first|refine zA ?_|refine zB ?_|refine zC ?_)
    refine Q4 rfl rfl (λn6=>?_);have hcl:=D4 pa pc p w16.heap.size (w16.drewN n6) ((HP.out w16 Qu7.out).drewN n6) (by have:=Uf.out;omega);rw [<-Dg.out] at hcl;go_wp2_with fail
    with_reducible refine hcl.mono ?_
    rintro e Qd9 ⟨cv,rfl,hoc,Qvs,hfc⟩;clear hcl;obtain ⟨_,ca,cc,rfl,hpc,_⟩:=id hoc;have Qxu:=zz hoc;have Qyy:=zz hfc;have Qec:=zz (show Kp No w16 Qd9 from Qvs.of_drewN);have J76:=zz hpc;clear hoc hfc Qvs hpc;go_wp2_with fail
    refine ⟨Kp.of_no Qec.out,?_⟩;refine Q4 rfl rfl (λn7=>?_);go_wp2_with fail
    obtain ⟨Q3o,I6⟩: ∃W,W=(Qd9.drewN n7).alloc (.cells #[.slice ca pl cc] 42):=⟨_,rfl⟩;have Qfy:Q3o.heap[Qd9.heap.size]?=some (.cells #[.slice ca pl cc] 42 (0,0)):=by rw [I6];exact heap_alloc_new (Qd9.drewN n7) _
    have k18:Kp No Qd9 Q3o:=by rw [I6];exact (zK.drewN n7).alloc _
    rw [<-I6];clear I6;have Qae:Kp No w16 Q3o:=Qec.out.trans_same k18;refine ⟨Kp.of_no Qae,?_⟩;refine Q4 rfl rfl (λn8=>?_);have hlr:V1 w9 (Q3o.drewN n8) l d P (.slice (some ⟨lg,Q5d,none⟩) ln Qlt) (.slice Nz Ei M0) (S3++[((y:Nat×Nat).1,v)]) E9 st1.synced st1.dead G2:=by rw [Lp.out];exact Qed.out.no (Qae.drewN n8)
    have hoe:Own (Q3o.drewN n8) 42 1 (.slice Nz Ei M0) Ei (E9.flatMap Mw):=by have:=hlr.c.Qn;rw [<-Lp.out] at this;exact this
    obtain ⟨a',c',Qxk,hrn,ho',Kc,Mm⟩:=Ey (T:=187) (E:=42) (sz:=1) (bytes:=24) Tryz.underlying187 Q50 hoe (news:=Mw ⟨ca,cc,p⟩) (Q63 _) rfl (g:=Qd9.heap.size) (cs:= #[.slice ca pl cc]) Qfy (by rw [Dg.out];rfl) (by have:=Ck.out;omega) (by have:=Ck.out;omega);have kS:Kp (λk=>(Value.slice Nz Ei M0).ownBlock=some k) w16 Qxk:=(Kp.of_no (Qae.drewN n8)).trans_same Kc;have Qpc:=zz hrn;have Q7a:=zz ho';have Q1z:=zz Kc;have Qj2:=zz Mm;have Q79:=zz hlr;have Qoz:=zz (k18.drewN n8);clear hrn ho' Kc Mm hlr hoe Qfy k18 Qae;refine wpList_append_run rfl rfl rfl rfl Qpc.out (wpList_nil ⟨rfl,kS,?_⟩);repeat (first|refine zA ?_|refine zB ?_|refine zC ?_)
    refine Yc (λn9=>?_);refine Q4 rfl rfl (λn10=>?_);obtain ⟨Q91,Bp⟩: ∃W,W=(Qxk.drewN n9).drewN n10:=⟨_,rfl⟩;have k20:Kp (λk=>(Value.slice Nz Ei M0).ownBlock=some k) (Q3o.drewN n8) Q91:=by rw [Bp];exact (Q1z.out.drewN n9).drewN n10
    have Q2q:Kp (λk=>(Value.slice Nz Ei M0).ownBlock=some k) w16 Q91:=by rw [Bp];exact (kS.drewN n9).drewN n10
    have Qgo:Own Q91 42 1 (.slice a' (Ei+1) c') (Ei+1) (E9.flatMap Mw++Mw ⟨ca,cc,p⟩):=by rw [Bp];exact Q7a.out
    rw [<-Bp];have Qqb:=e3 Q91 Q2q;have Qqj:=J4o Q91 Q2q;have Qqs:=Q2q.lt Qgl
    have Qgq:O0 (Q3o.drewN n8) ⟨ca,cc,p⟩:=by
     refine ⟨?_,?_,?_⟩
     ·have:=Qxu.out;rw [Dg.out] at this;exact this.keep Qoz.out λ_ _ x=>x
     ·show p.length<=cc
      rw [<-Dg.out];exact J76.out
     ·show p.length<=1000000000
      have:=Uf.out;omega
    have hnew:=Q79.out.J08 (r:=⟨ca,cc,p⟩) (W':=Q91) (ev':= .slice a' (Ei+1) c') Qgq
     (λg hg=> .inr (by
      have h1:=Qyy.out g (by rw [Dg.out];exact hg);have h2:w16.heap.size<=g:=h1;have h3:=Qed.out.kp.size;omega)) k20
     (by rw [List.length_append,List.length_singleton,<-Lp.out,List.flatMap_append,List.flatMap_cons,List.flatMap_nil,List.append_nil];exact Qgo) Qj2.out
    have Yz:=zz hnew;clear hnew Bp k20 Q2q Qgo Qgq;go_wp2_with fail
    intro nr;obtain ⟨Q3p,Q8j⟩: ∃W,W=(Q91.setCell ⟨l,3,none⟩ (.slice a' (Ei+1) c')).drewN nr:=⟨_,rfl⟩;have Qju:=zz (Yz.out.no (show Kp No _ Q3p from by rw [Q8j];exact (Kp.refl No _).drewN nr));rw [<-Q8j];clear Q8j Qqb Qqj Qqs kS e0 e3 J4o p16 Qo3;have Q88:Kp G2 w9 Q3p:=Qju.out.kp;have q1:Q3p.cell? ⟨b0+1,0,none⟩=some (.int .i64 0):=(Q88.cell (p:=⟨b0+1,0,none⟩) (by show b0+1<_;omega) (Q3i.out (b0+1) (by omega) (by omega))).trans Q77.out.2.1;have Jb1:Q3p.frozen? ⟨b0+1,0,none⟩=false:=(Q88.frozen (p:=⟨b0+1,0,none⟩) (by show b0+1<_;omega) (Q3i.out (b0+1) (by omega) (by omega))).trans Q77.out.2.2.1;have q2:Q3p.cell? ⟨b0+1+1,0,none⟩=some (.int .i64 0):=(Q88.cell (p:=⟨b0+1+1,0,none⟩) (by show b0+1+1<_;omega) (Q3i.out (b0+1+1) (by omega) (by omega))).trans Q77.out.2.2.2.1;have Jb3:Q3p.frozen? ⟨b0+1+1,0,none⟩=false:=(Q88.frozen (p:=⟨b0+1+1,0,none⟩) (by show b0+1+1<_;omega) (Q3i.out (b0+1+1) (by omega) (by omega))).trans Q77.out.2.2.2.2.1;have J0z:b0+1+1<Q3p.heap.size:=by have:=Q88.size;omega
    have Qz3:=zz Q88;clear Q88;go_wp2_with fail
    have r1:((Q3p.setCell ⟨b0+1,0,none⟩ (.int .i64 (k1:Int))).setCell ⟨b0+1+1,0,none⟩ (.int .i64 0)).cell? ⟨b0+1,0,none⟩=some (.int .i64 (k1:Int)):=by
     have hk:=(Kp.refl (One (b0+1+1)) (Q3p.setCell ⟨b0+1,0,none⟩ (.int .i64 (k1:Int)))).setCell (p:=⟨b0+1+1,0,none⟩) (.inl rfl) (.int .i64 0);rw [hk.cell (p:=⟨b0+1,0,none⟩) (by simp [World.setCell];omega) (by show ¬b0+1=b0+1+1;omega)];simp [go_sem,q1]
    have r2:((Q3p.setCell ⟨b0+1,0,none⟩ (.int .i64 (k1:Int))).setCell ⟨b0+1+1,0,none⟩ (.int .i64 0)).cell? ⟨b0+1+1,0,none⟩=some (.int .i64 0):=by
     have hk:=(Kp.refl (One (b0+1)) Q3p).setCell (p:=⟨b0+1,0,none⟩) (.inl rfl) (.int .i64 (k1:Int));have h2:=(hk.cell (p:=⟨b0+1+1,0,none⟩) J0z (by show ¬b0+1+1=b0+1;omega)).trans q2;simp [go_sem,h2]
    have k24:Kp (λi=>i=b0+1\/i=b0+1+1) Q3p ((Q3p.setCell ⟨b0+1,0,none⟩ (.int .i64 (k1:Int))).setCell ⟨b0+1+1,0,none⟩ (.int .i64 0)):=
     ((Kp.refl (λi=>i=b0+1\/i=b0+1+1) Q3p).setCell (p:=⟨b0+1,0,none⟩) (.inl (.inl rfl)) _).setCell (p:=⟨b0+1+1,0,none⟩) (.inl (.inr rfl)) _
    obtain ⟨J6b,Qwz⟩: ∃W,W=(Q3p.setCell ⟨b0+1,0,none⟩ (.int .i64 (k1:Int))).setCell ⟨b0+1+1,0,none⟩ (.int .i64 0):=⟨_,rfl⟩;rw [<-Qwz] at r1 r2 k24⊢;clear Qwz;have hap:=Lv (p:=p) HD.out Uf.out Qej.out;rw [Q03.out,<-Q7f.out,<-HQ.out,if_pos (by rw [<-Q06.out];exact hz)] at hap;have hadd:Vk st1 p={st1 with Qn:=st1.Qn++[p],Qk:=S3++[((y:Nat×Nat).1,(y:Nat×Nat).2+fl)]}:=Q1x.out;obtain ⟨G3,hL3,hG3,hK3⟩:=Qju.out.stop;have Qq7:=HB.out.1.Aw hL3 hG3 hK3;have h0:=Q6u.out.Quj;have hsz:=Q6u.out.size
    have J0j: ∀g,F2 g-> ¬(g=b0+1\/g=b0+1+1):=λg hg hb=>by
     rcases HB.out.2.1 g hg with h1|h1
     ·have:=Q9h.out g h1;omega
     ·omega
    have J0n: ∀g,G3 g-> ¬(g=b0+1\/g=b0+1+1):=λg hg hb=>by
     rcases hG3 g hg with h1|h1
     ·exact Q3i.out g (by omega) (by omega) h1
     ·omega
    have Qv4:Lt J6b d l P q.2 _ F2 G3:=⟨Qq7.disk.keep k24 J0j,Qq7.log.keep k24 J0n,Qq7.sep⟩
    have hst:(⟨(E9++[(⟨ca,cc,p⟩:Row)]).map Row.data,S3++[((y:Nat×Nat).1,v)],st1.synced,st1.dead⟩:J2)=Vk st1 p:=by
     rw [hadd,List.map_append,<-HB.out.2.2.2.2,J6t.out,J7h.out];rfl
    rw [hst] at Qv4
    have hfin:Ze w d l P F G q.2 (Vk st1 p) J6b:=by
     refine ⟨F2,G3,Qv4,λg hg=>(HB.out.2.1 g hg).imp id λh=>Nat.le_trans Qz.out.size h,λg hg=>?_,?_⟩
     ·rcases hG3 g hg with h1|h1
      ·exact (HB.out.2.2.1 g h1).imp id λh=>Nat.le_trans Qz.out.size h
      ·right;omega
     ·refine ((((Kp.of_no Qz.out).trans_same HB.out.2.2.2.1).trans (T:=G2) Qz3.out λi hi hg=>?_).trans k24 λi hi hb=>by omega);rcases HB.out.2.2.1 i hg with h1|h1
      ·exact .inr h1
      ·omega
    refine Qf5 r1 r2 _ rfl rfl _ ?_;rw [hap];exact ⟨rfl,hfin⟩
end Go.Proofs.YtgnkmjeoaoongaaGreatDoor
