/- store -/
import Derived.Test.YtgnkmjeoaoongaaGreatDoorVa8
import Derived.Test.YtgnkmjeoaoongaaGreatDoorVb0
set_option maxRecDepth 100000
set_option maxHeartbeats 4000000
namespace Go.Proofs.YtgnkmjeoaoongaaGreatDoor
open Go.RowKit Go.Mer
theorem Zu.dead {w W2 w3 w4:World} {d l:Nat} {P:ByteArray} {F G T:Nat->Prop} {s':Qz} {st':Jf} (hF: ∀k,F k->k<w.heap.size) (hG: ∀k,G k->k<w.heap.size) (hS:Zu W2 d l P F G s' st' w3) (hk0:Kp No w W2) (hk:Kp T w3 w4) (hT: ∀k,T k->w.heap.size<=k/\(k<W2.heap.size\/w3.heap.size<=k)) (b:Bool):
  (∃z,w4.cell? ⟨l,5,none⟩=some z)/\w4.frozen? ⟨l,5,none⟩=false/\l<w4.heap.size/\Zu w d l P F G s' {st' with dead:=b} (w4.setCell ⟨l,5,none⟩ (.bool b)):=by
 obtain ⟨F',G',hW,J6z,J74,Jbn⟩:=hS;have hs0:=hk0.size;have hs1:=Jbn.size;have hfw: ∀k,F' k->F k\/W2.heap.size<=k:=J6z
 have Jga: ∀k,F' k-> ¬T k:=λk hf ht=>by
  have h1:=hT k ht;have h2:=hW.disk.lt k hf;rcases J6z k hf with h3|h3
  ·have:=hF k h3;omega
  ·omega
 have Jgb: ∀k,G' k-> ¬T k:=λk hg ht=>by
  have h1:=hT k ht;have h2:=hW.log.lt k hg;rcases J74 k hg with h3|h3
  ·have:=hG k h3;omega
  ·omega
 have hD4:=hW.disk.keep hk Jga;have hL4:=hW.log.keep hk Jgb;have Mz:C0 w4 d l P s' st' F' G':=⟨hD4,hL4,hW.sep⟩;obtain ⟨sv,ev,E,hrun,hE,_⟩:=Vg.start hL4;obtain ⟨_,_,_,_,_,c5,fr⟩:=hrun.c.cells;have hll:=Q7 hrun.c.cell;have hcl:=Ql hrun.c.cell 5 (.bool b);have hR2:=hrun.flag (Yd:=st'.synced) (Fg:=b) (W':=w4.setCell ⟨l,5,none⟩ (.bool b)) ((Kp.refl (One l) _).setCell (p:=⟨l,5,none⟩) (.inl rfl) _) (by simpa using hcl);obtain ⟨G2,hL2,hG2,hK2⟩:=hR2.stop;rw [<-hE] at hL2;have C8:=Mz.Q1x hL2 hG2 hK2;refine ⟨⟨_,c5 w4 zK⟩,fr w4 zK 5,hll,F',G2,C8,λk hk'=>(J6z k hk').imp id λh=>Nat.le_trans hs0 h,λk hk'=>?_,?_⟩
 ·rcases hG2 k hk' with h|h
  ·exact (J74 k h).imp id λh=>Nat.le_trans hs0 h
  ·right
   have:=hk.size;omega
 ·have h1:Kp (V2 F G) w w3:=(Kp.Qx hk0).Q0 Jbn;have h2:Kp (V2 F G) w w4:=h1.trans hk λi hi ht=>by have:=hT i ht;omega
  refine h2.trans hK2 λi hi hg=>?_;rcases J74 i hg with h|h
  ·exact .inr h
  ·omega
def J02 (w:World) (d l:Nat) (P:ByteArray) (F G:Nat->Prop) (r:Int×Qz×Jf) (e:Ending) (w':World):Prop:=e= .returned (.int .i64 r.1)/\Zu w d l P F G r.2.1 r.2.2 w'
theorem Qn8 {s:Qz} {x:ByteArray}: ∃k:Nat,(Da s x).1=(k:Int):=by
 obtain ⟨n,hn⟩:=Int.eq_ofNat_of_zero_le (Qel s x).1;exact ⟨n,hn⟩
theorem Cr (P:ByteArray) (s:Qz) (st:Jf): ∃k:Nat,(J0 P s st).1=(k:Int):=by
 unfold J0;split
 ·split
  ·exact ⟨0,rfl⟩
  ·exact Qn8
 ·exact ⟨0,rfl⟩
theorem Qhg (w:World) (d l:Nat) (P:ByteArray) (s:Qz) (st:Jf) (F G:Nat->Prop) (h:C0 w d l P s st F G) (hne:st.Qk=[]->st.Qi.length<=st.synced):
  Calls Tryz.prog 113 #[.pointer (some ⟨l,0,none⟩)] w (J02 w d l P F G (Yi P s st)):=by
 have hmf: ∀(fn:Fn) (first cap:Array Value) (w:World),(Instr.makeFunc fn first cap).run Tryz.prog w= .ok (.func fn first cap) w:=λ_ _ _ _=>rfl;obtain ⟨sv,ev,E,hC,hE,Q0c,Ku⟩:=h.log;obtain ⟨_,_,_,_,_,c5,fr⟩:=hC.cells;have hll:=Q7 hC.cell;have Q4p:=h.disk.lt;have Q4q:=h.log.lt;have Hv:=zz c5;have H:=zz h;have Qoq:=zz hne;have Ao:=zz Q4p;have Qok:=zz Q4q;clear h hE Q0c Ku hC fr c5 Q4p Q4q hne;cases hd:st.dead with
 |true=>
  have hq:Yi P s st=(9,s,st):=by unfold Yi;rw [if_pos hd]
  have HQ:=zz hq;have hk2:Kp No w ((w.alloc (.cells #[.pointer (some ⟨l,0,none⟩)] 127)).alloc (.cells #[.int .i64 0] 47)):=((Kp.refl No w).alloc _).alloc _;have Hr:=Hv.out _ hk2;rw [hd] at Hr;clear hq hd hk2;go_enter_defers Tryz.func113,Tryz.ntmps113
  go_wp2_with fail
  refine Mt (v:= .int .i64 9) rfl (by simp [results,Tryz.results113,go_sem]) ⟨by rw [HQ.out],?_⟩;rw [HQ.out];exact Zu.here H.out (((Kp.refl No w).alloc _).alloc _)
 |false=>
  have hq:Yi P s st=((J0 P s st).1,(J0 P s st).2.1,{(J0 P s st).2.2 with dead:=decide ((J0 P s st).1≠0)}):=by
   unfold Yi;rw [if_neg (by rw [hd];decide)]
  have HQ:=zz hq;obtain ⟨W2,hW2⟩: ∃W,W=(w.alloc (.cells #[.pointer (some ⟨l,0,none⟩)] 127)).alloc (.cells #[.int .i64 0] 47):=⟨_,rfl⟩;have hk2:Kp No w W2:=by rw [hW2];exact ((Kp.refl No w).alloc _).alloc _
  have Hr:=Hv.out W2 hk2;rw [hd] at Hr;have Jay:W2.cell? ⟨w.heap.size,0,none⟩=some (.pointer (some ⟨l,0,none⟩)):=by rw [hW2];simp [go_sem]
  have Jaz:W2.cell? ⟨w.heap.size+1,0,none⟩=some (.int .i64 0):=by rw [hW2];simp [go_sem]
  have J4a:W2.frozen? ⟨w.heap.size+1,0,none⟩=false:=by rw [hW2];simp [go_sem]
  have hs2:W2.heap.size=w.heap.size+1+1:=by rw [hW2];simp
  have hsy:=Q3z W2 d l P s st F G (H.out.no hk2) Qoq.out;obtain ⟨b0,hb0⟩: ∃b0,b0=w.heap.size:=⟨_,rfl⟩;have Q6g:=zz hsy;have J9:=zz hk2;have HW2:=zz hW2;have HB0:=zz hb0;have Jb5:=Hr;rw [hW2] at Jb5;rw [<-hb0] at Jay Jaz J4a hs2;clear hq hd hk2 hsy Hr hW2;go_enter_defers Tryz.func113,Tryz.ntmps113
  go_upto_region 6 with fail
  rw [<-HW2.out,<-hb0];clear Jb5 hb0;go_wp2_with fail
  have hc:=Q6g.out;with_reducible refine hc.mono ?_
  rintro e w3 ⟨hs3,Qq0⟩;clear hc Q6g;obtain ⟨k,hk⟩:=Cr P s st;rw [hk] at Qq0
  have hkb:Kp (V2 F G) W2 w3:=by
   obtain ⟨_,_,_,_,_,hkk⟩:=hs3;exact hkk
  have J7f: ∀i,b0<=i-> ¬V2 F G i:=λi hi hb=>by
   have h0:=HB0.out;rcases hb with hb|hb
   ·have:=Ao.out i hb;omega
   ·have:=Qok.out i hb;omega
  have hln:l<b0:=by rw [HB0.out];exact hll
  have g0:w3.cell? ⟨b0,0,none⟩=some (.pointer (some ⟨l,0,none⟩)):=(hkb.cell (p:=⟨b0,0,none⟩) (by show b0<_;omega) (J7f b0 (Nat.le_refl _))).trans Jay;have g1:w3.cell? ⟨b0+1,0,none⟩=some (.int .i64 0):=(hkb.cell (p:=⟨b0+1,0,none⟩) (by show b0+1<_;omega) (J7f (b0+1) (by omega))).trans Jaz;have f1:w3.frozen? ⟨b0+1,0,none⟩=false:=(hkb.frozen (p:=⟨b0+1,0,none⟩) (by show b0+1<_;omega) (J7f (b0+1) (by omega))).trans J4a;have hl3:b0+1<w3.heap.size:=by have:=hkb.size;omega
  have Jh3:=hkb.size;have Qzf:=zz hs3;have HK:=zz hk;have hTs: ∀i,i=b0+1->w.heap.size<=i/\(i<W2.heap.size\/w3.heap.size<=i):=λi hi=>by have:=HB0.out;omega
  have J60:=zz hTs;rcases Qq0 with ⟨hz,rfl⟩|⟨hz,rfl⟩
  ·obtain ⟨w4,hw4⟩: ∃W,W=w3.setCell ⟨b0+1,0,none⟩ (.int .i64 0):=⟨_,rfl⟩;have k4:Kp (λi=>i=b0+1) w3 w4:=by rw [hw4];exact (Kp.refl (λi=>i=b0+1) w3).setCell (p:=⟨b0+1,0,none⟩) (.inl rfl) _
   obtain ⟨⟨z,Qta⟩,hf5,hl5,hfin⟩:=Qzf.out.dead Ao.out Qok.out J9.out k4.drew (by exact J60.out) false;have q0:w4.cell? ⟨b0,0,none⟩=some (.pointer (some ⟨l,0,none⟩)):=(k4.cell (p:=⟨b0,0,none⟩) (by show b0<_;omega) (by show ¬b0=b0+1;omega)).trans g0;have q1:w4.cell? ⟨b0+1,0,none⟩=some (.int .i64 0):=by rw [hw4];simp [go_sem,g1]
   have hce:=Qh4 ⟨b0+1,0,none⟩ ⟨b0,0,none⟩ l z w4 q0 Qta hf5;have Q47:=zz hce;have Yf:=zz hfin;have HR1:=zz q1;have Qxj:=zz hw4;clear hce hfin hw4 k4 q0 q1 Qta hf5 hl5;go_wp2_with fail
   rw [<-Qxj.out];refine leaves_cons (f:=188) (args:= #[.pointer (some ⟨b0+1,0,none⟩), .pointer (some ⟨b0,0,none⟩)]) (by simp) (by simp [go_sem]) ?_;refine Q47.out.mono ?_;rintro e u' w'' ⟨rfl,rfl,rfl⟩;refine ⟨.int .i64 0,?_,?_⟩
   ·simp [results,Tryz.results113,go_sem,HR1.out]
   ·refine ⟨?_,?_⟩
    ·rw [HQ.out,HK.out,hz]
    ·rw [HQ.out,HK.out,hz];exact Yf.out
  ·obtain ⟨⟨z,Qta⟩,hf5,hl5,_⟩:=Qzf.out.dead Ao.out Qok.out J9.out (Kp.refl (λi=>i=b0+1) w3) (by exact J60.out) true;have hce:=Qcj (b0+1) 0 k ⟨b0,0,none⟩ l (.int .i64 0) z [] w3 g1 f1 hl3 g0 (by show b0<_;omega) (by show ¬b0=b0+1;omega) Qta hf5 hl5 (by omega);refine leaves_cons (f:=188) (args:= #[.pointer (some ⟨b0+1,0,none⟩), .pointer (some ⟨b0,0,none⟩)]) (by simp) (by simp [go_sem]) ?_;refine (show CallsD Tryz.prog 188 #[.pointer (some ⟨b0+1,0,none⟩), .pointer (some ⟨b0,0,none⟩)] (.panicking (Qdi (k:Int))) w3 _ from hce).mono ?_;rintro e u' w'' ⟨rfl,rfl,o,rfl⟩;have k4:Kp (λi=>i=b0+1) w3 ((w3.drew.setCell ⟨b0+1,0,none⟩ (.int .i64 (k:Int))).alloc o):=(((Kp.refl (λi=>i=b0+1) w3).drew).setCell (p:=⟨b0+1,0,none⟩) (.inl rfl) _).alloc _;have hno:Kp No (w3.drew.setCell ⟨b0+1,0,none⟩ (.int .i64 (k:Int))) ((w3.drew.setCell ⟨b0+1,0,none⟩ (.int .i64 (k:Int))).alloc o):=zK.alloc _
   have q1:((w3.drew.setCell ⟨b0+1,0,none⟩ (.int .i64 (k:Int))).alloc o).cell? ⟨b0+1,0,none⟩=some (.int .i64 (k:Int)):=by
    rw [hno.cell (p:=⟨b0+1,0,none⟩) (by simpa using hl3) (λx=>x)];simp [go_sem,g1]
   obtain ⟨_,_,_,hfin⟩:=Qzf.out.dead Ao.out Qok.out J9.out k4 (by exact J60.out) true;obtain ⟨w4,hw4⟩: ∃W,W=(w3.drew.setCell ⟨b0+1,0,none⟩ (.int .i64 (k:Int))).alloc o:=⟨_,rfl⟩;rw [<-hw4] at q1 hfin⊢;refine ⟨.int .i64 (k:Int),?_,?_⟩
   ·simp [results,Tryz.results113,go_sem,q1]
   ·refine ⟨?_,?_⟩
    ·rw [HQ.out,HK.out]
    ·rw [HQ.out,HK.out];have hkz:decide ((k:Int)≠0)=true:=decide_eq_true hz;rw [hkz];exact hfin
structure J3n (w W2:World) (d l b0:Nat) (F G:Nat->Prop):Prop where
 k2:Kp No w W2
 J07:b0=w.heap.size
 size:W2.heap.size=b0+3
 p0:W2.cell? ⟨b0,0,none⟩=some (.pointer (some ⟨l,0,none⟩))
 p1:W2.cell? ⟨b0+1,0,none⟩=some (.int .i64 0)
 f1:W2.frozen? ⟨b0+1,0,none⟩=false
 p2:W2.cell? ⟨b0+2,0,none⟩=some (.int .i64 0)
 f2:W2.frozen? ⟨b0+2,0,none⟩=false
 ll:l<b0
 hF: ∀k,F k->k<w.heap.size
 hG: ∀k,G k->k<w.heap.size
theorem J3n.cells {w W2 wx:World} {d l b0:Nat} {F G:Nat->Prop} (h:J3n w W2 d l b0 F G) (hk:Kp (V2 F G) W2 wx):
  wx.cell? ⟨b0,0,none⟩=some (.pointer (some ⟨l,0,none⟩))/\wx.cell? ⟨b0+1,0,none⟩=some (.int .i64 0)/\wx.frozen? ⟨b0+1,0,none⟩=false/\wx.cell? ⟨b0+2,0,none⟩=some (.int .i64 0)/\wx.frozen? ⟨b0+2,0,none⟩=false/\b0+2<wx.heap.size:=by
 have h0:=h.J07;have hs:=h.size
 have hn: ∀k,b0<=k-> ¬V2 F G k:=λk hk hb=>by
  rcases hb with hb|hb
  ·have:=h.hF k hb;omega
  ·have:=h.hG k hb;omega
 refine ⟨(hk.cell (p:=⟨b0,0,none⟩) (by show b0<_;omega) (hn _ (Nat.le_refl _))).trans h.p0,(hk.cell (p:=⟨b0+1,0,none⟩) (by show b0+1<_;omega) (hn _ (by show b0<=b0+1;omega))).trans h.p1,
  (hk.frozen (p:=⟨b0+1,0,none⟩) (by show b0+1<_;omega) (hn _ (by show b0<=b0+1;omega))).trans h.f1,(hk.cell (p:=⟨b0+2,0,none⟩) (by show b0+2<_;omega) (hn _ (by show b0<=b0+2;omega))).trans h.p2,
  (hk.frozen (p:=⟨b0+2,0,none⟩) (by show b0+2<_;omega) (hn _ (by show b0<=b0+2;omega))).trans h.f2,by have:=hk.size;omega⟩
theorem Zu.kp {w a:World} {d l:Nat} {P:ByteArray} {F G:Nat->Prop} {s':Qz} {st':Jf} (h:Zu w d l P F G s' st' a):Kp (V2 F G) w a:=by
 obtain ⟨_,_,_,_,_,h⟩:=h;exact h
theorem Zu.from {w W2 a:World} {d l:Nat} {P:ByteArray} {F G:Nat->Prop} {s':Qz} {st':Jf} (h:Zu W2 d l P F G s' st' a) (hk:Kp No w W2):Zu w d l P F G s' st' a:=by
 obtain ⟨F',G',h1,h2,h3,h4⟩:=h;exact ⟨F',G',h1,λk hk'=>(h2 k hk').imp id λh=>Nat.le_trans hk.size h,λk hk'=>(h3 k hk').imp id λh=>Nat.le_trans hk.size h,(Kp.Qx hk).Q0 h4⟩
theorem Ay {w W2 wx:World} {d l b0:Nat} {P:ByteArray} {F G:Nat->Prop} {s1:Qz} {st1:Jf} (h:J3n w W2 d l b0 F G) (hS:Zu W2 d l P F G s1 st1 wx) (kn:Nat) (tmps:Array Value) (h4:tmps.getD 4 undef= .pointer (some ⟨b0+1,0,none⟩)) (h5:tmps.getD 5 undef= .pointer (some ⟨b0+2,0,none⟩)) (R:Ending->World->Prop)
  (hR: ∀w'',Zu w d l P F G s1 {st1 with dead:=(kn:Int) !=6} w''->R (.returned (.tuple #[.int .i64 0, .int .i64 (kn:Int)])) w''):
  Leaves Tryz.prog Tryz.f112 tmps R [{target:= .fn (.func 183) #[.pointer (some ⟨b0+2,0,none⟩), .pointer (some ⟨b0+1,0,none⟩), .pointer (some ⟨b0,0,none⟩)],args:= #[]}] (.panicking (Qdi (kn:Int))) wx:=by
 obtain ⟨c0,c1,g1,c2,g2,hs⟩:=h.cells hS.kp;have h0:=h.J07;have hll:=h.ll;have hsz:=h.size;have hT: ∀i,(i=b0+1\/i=b0+2)->w.heap.size<=i/\(i<W2.heap.size\/wx.heap.size<=i):=λi hi=>by omega
 obtain ⟨⟨z,Qta⟩,hf5,hl5,_⟩:=hS.dead h.hF h.hG h.k2 (Kp.refl (λi=>i=b0+1\/i=b0+2) wx) hT true;refine leaves_cons (f:=183) (args:= #[.pointer (some ⟨b0+2,0,none⟩), .pointer (some ⟨b0+1,0,none⟩), .pointer (some ⟨b0,0,none⟩)]) (by simp) (by simp [go_sem]) ?_
 refine (show CallsD Tryz.prog 183 #[.pointer (some ⟨b0+2,0,none⟩), .pointer (some ⟨b0+1,0,none⟩), .pointer (some ⟨b0,0,none⟩)] (.panicking (Qdi (kn:Int))) wx _ from
  Qfc (b0+2) 0 kn l ⟨b0+1,0,none⟩ ⟨b0,0,none⟩ (.int .i64 0) (.int .i64 0) z [] wx c2 g2 hs c1 g1 (by show b0+1<_;omega) (by show ¬b0+1=b0+2;omega) c0 (by show b0<_;omega) (by show ¬b0=b0+2;omega) Qta hf5 hl5 (by omega) (by show ¬l=b0+1;omega)).mono ?_
 rintro e u' w'' ⟨rfl,rfl,o,rfl⟩;have k1:Kp (λi=>i=b0+1\/i=b0+2) wx ((wx.setCell ⟨b0+2,0,none⟩ (.int .i64 (kn:Int))).alloc o):=((Kp.refl (λi=>i=b0+1\/i=b0+2) wx).setCell (p:=⟨b0+2,0,none⟩) (.inl (.inr rfl)) _).alloc _;have hno:Kp No (wx.setCell ⟨b0+2,0,none⟩ (.int .i64 (kn:Int))) ((wx.setCell ⟨b0+2,0,none⟩ (.int .i64 (kn:Int))).alloc o):=zK.alloc _
 have q2:((wx.setCell ⟨b0+2,0,none⟩ (.int .i64 (kn:Int))).alloc o).cell? ⟨b0+2,0,none⟩=some (.int .i64 (kn:Int)):=by
  rw [hno.cell (p:=⟨b0+2,0,none⟩) (by simpa using hs) (λx=>x)];simp [go_sem,c2]
 have k1':Kp (One (b0+2)) wx ((wx.setCell ⟨b0+2,0,none⟩ (.int .i64 (kn:Int))).alloc o):=((Kp.refl (One (b0+2)) wx).setCell (p:=⟨b0+2,0,none⟩) (.inl rfl) _).alloc _;have q1:((wx.setCell ⟨b0+2,0,none⟩ (.int .i64 (kn:Int))).alloc o).cell? ⟨b0+1,0,none⟩=some (.int .i64 0):=(k1'.cell (p:=⟨b0+1,0,none⟩) (by show b0+1<_;omega) (by show ¬b0+1=b0+2;omega)).trans c1;obtain ⟨w4,hw4⟩: ∃W,W=(wx.setCell ⟨b0+2,0,none⟩ (.int .i64 (kn:Int))).alloc o:=⟨_,rfl⟩;rw [<-hw4] at q1 q2 k1⊢;have k5:=k1.setCell (p:=⟨b0+1,0,none⟩) (.inl (.inl rfl)) (.int .i64 0);obtain ⟨_,_,_,hfin⟩:=hS.dead h.hF h.hG h.k2 k5 hT ((kn:Int) !=6);have r1:(w4.setCell ⟨b0+1,0,none⟩ (.int .i64 0)).cell? ⟨b0+1,0,none⟩=some (.int .i64 0):=by simp [go_sem,q1]
 have r2:(w4.setCell ⟨b0+1,0,none⟩ (.int .i64 0)).cell? ⟨b0+2,0,none⟩=some (.int .i64 (kn:Int)):=by
  have hk:=(Kp.refl (One (b0+1)) w4).setCell (p:=⟨b0+1,0,none⟩) (.inl rfl) (.int .i64 0);rw [hk.cell (p:=⟨b0+2,0,none⟩) (World.block_lt_of_cell? w4 _ q2) (by show ¬b0+2=b0+1;omega)];exact q2
 obtain ⟨w5,hw5⟩: ∃W,W=w4.setCell ⟨b0+1,0,none⟩ (.int .i64 0):=⟨_,rfl⟩;rw [<-hw5] at r1 r2 hfin⊢;have hkl:=(Kp.refl (One l) w5).setCell (p:=⟨l,5,none⟩) (.inl rfl) (.bool ((kn:Int) !=6));have t1:=(hkl.cell (p:=⟨b0+1,0,none⟩) (World.block_lt_of_cell? w5 _ r1) (by show ¬b0+1=l;omega)).trans r1;have t2:=(hkl.cell (p:=⟨b0+2,0,none⟩) (World.block_lt_of_cell? w5 _ r2) (by show ¬b0+2=l;omega)).trans r2;refine ⟨.tuple #[.int .i64 0, .int .i64 (kn:Int)],?_,hR _ hfin⟩;have h4':tmps[4]?.getD undef= .pointer (some ⟨b0+1,0,none⟩):=by rw [<-h4,Array.getD_eq_getD_getElem?]
 have h5':tmps[5]?.getD undef= .pointer (some ⟨b0+2,0,none⟩):=by rw [<-h5,Array.getD_eq_getD_getElem?]
 obtain ⟨w6,hw6⟩: ∃W,W=w5.setCell ⟨l,5,none⟩ (.bool ((kn:Int) !=6)):=⟨_,rfl⟩;rw [<-hw6] at t1 t2⊢;simp [results,Tryz.results112,go_sem,h4',h5',t1,t2]
theorem Qj8 {wx:World} {b0:Nat} {n:Int} (hp:wx.cell? ⟨b0+1,0,none⟩=some (.int .i64 n)) (he:wx.cell? ⟨b0+2,0,none⟩=some (.int .i64 0)) (tmps:Array Value) (h4:tmps.getD 4 undef= .pointer (some ⟨b0+1,0,none⟩)) (h5:tmps.getD 5 undef= .pointer (some ⟨b0+2,0,none⟩)) (R:Ending->World->Prop)
  (hR:R (.returned (.tuple #[.int .i64 n, .int .i64 0])) wx):
  Leaves Tryz.prog Tryz.f112 tmps R [{target:= .fn (.func 183) #[.pointer (some ⟨b0+2,0,none⟩), .pointer (some ⟨b0+1,0,none⟩), .pointer (some ⟨b0,0,none⟩)],args:= #[]}] .returning wx:=by
 refine leaves_cons (f:=183) (args:= #[.pointer (some ⟨b0+2,0,none⟩), .pointer (some ⟨b0+1,0,none⟩), .pointer (some ⟨b0,0,none⟩)]) (by simp) (by simp [go_sem]) ?_;refine (Qj9 ⟨b0+2,0,none⟩ ⟨b0+1,0,none⟩ ⟨b0,0,none⟩ wx).mono ?_;rintro e u' w'' ⟨rfl,rfl,rfl⟩;refine ⟨.tuple #[.int .i64 n, .int .i64 0],?_,hR⟩;have h4':tmps[4]?.getD undef= .pointer (some ⟨b0+1,0,none⟩):=by rw [<-h4,Array.getD_eq_getD_getElem?]
 have h5':tmps[5]?.getD undef= .pointer (some ⟨b0+2,0,none⟩):=by rw [<-h5,Array.getD_eq_getD_getElem?]
 simp [results,Tryz.results112,go_sem,h4',h5',hp,he]
theorem Vg.J9k {w W W':World} {l d:Nat} {P:ByteArray} {sv ev:Value} {S S':List (Nat×Nat)} {E:List Row} {synced:Nat} {dead:Bool} {G:Nat->Prop} (h:Vg w W l d P sv ev S E synced dead G) (hk:Kp (λk=>sv.ownBlock=some k) W W') (ho:Own W' 243 2 sv S'.length (S'.flatMap (Q1j P))):
  Vg w W' l d P sv ev S' E synced dead G:=by
 have hc:=h.c;refine h.step hk (λk hT=> .inl (.inr (.inl hT))) ⟨hk.get hc.cell λe=>(hc.Xf e).1 rfl,ho,hc.Qi.keep hk λg hg hT=>(hc.V4 hg).2.1 hT,λq hq=>(hc.each q hq).keep hk λg hg hT=>(hc.Xf hT).2.2 q hq hg⟩ λ_ x=> .inl x
theorem Qjv (x:Int):decide (x≠6)=(x !=6):=by
 by_cases h:x=6
 ·subst h;rfl
 ·rw [decide_eq_true h];simp [bne,h]
theorem Q6u (a a':Option Addr) (c c':Nat) (l l':List UInt8):Xo [⟨a,c,l⟩,⟨a',c',l'⟩]=l++l':=by simp [Xo]
theorem Zv (n:Nat) (hn:n<=1000000000000) (p:List UInt8):(Zo n p).length=(Qq n).length+p.length+12/\(Qq n).length<=6:=by
 have:=Il hn;unfold Zo;rw [Mb,List.length_append];omega
theorem Ol (P:ByteArray) (s:Qz) (st:Jf):(J0 P s st).2.2.Qi=st.Qi/\(J0 P s st).2.2.Qk=st.Qk/\(J0 P s st).2.2.dead=st.dead:=by
 unfold J0;split
 ·split
  ·exact ⟨rfl,rfl,rfl⟩
  ·simp only
   split
   ·exact ⟨rfl,rfl,rfl⟩
   ·exact ⟨rfl,rfl,rfl⟩
 ·exact ⟨rfl,rfl,rfl⟩
theorem Q3t {P:ByteArray} {s:Qz} {st:Jf} (h:Jj st=true) (hs:st.Qk≠[]):Ju P s st=J0 P s st:=by unfold Ju;rw [if_pos ⟨h,hs⟩]
theorem Q8k {P:ByteArray} {s:Qz} {st:Jf} (h:st.Qk=[]):Ju P s st=(0,s,st):=by unfold Ju;rw [if_neg (λhh=>hh.2 h)]
theorem Qe7 {P:ByteArray} {s:Qz} {st:Jf} (h:Jj st=false):Ju P s st=(0,s,st):=by unfold Ju;rw [if_neg (λhh=>by rw [h] at hh;cases hh.1)]
theorem Et {st:Jf} (h:st.Qk=[]):Jj st=true:=by unfold Jj;rw [h];rfl
theorem Es {st:Jf} {S1:List (Nat×Nat)} {z:Nat×Nat} (h:st.Qk=S1++[z]):Jj st=decide (1024<=z.2):=by
 unfold Jj;rw [h,List.getLast?_append];rfl
theorem Fj {st:Jf} {S1:List (Nat×Nat)} {z:Nat×Nat} (h:st.Qk=S1++[z]):Oc st=z.1:=by
 unfold Oc;rw [h,List.getLast?_append];rfl
theorem Qja {P:ByteArray} {s:Qz} {st:Jf} {p:List UInt8} (hd:st.dead=false) (hl:p.length<=262134) (h:(Ju P s st).1≠0):Jz P s st p=((0,(Ju P s st).1),(Ju P s st).2.1,{(Ju P s st).2.2 with dead:=(Ju P s st).1 !=6}):=by
 unfold Jz;rw [if_neg (by rw [hd];decide),if_neg (by omega),if_neg h,Qjv]
theorem C2 {P:ByteArray} {s s1:Qz} {st st1:Jf} {p:List UInt8} (hd:st.dead=false) (hl:p.length<=262134) (h:Ju P s st=(0,s1,st1)):
  Jz P s st p=(if (Gy s1 (toN P st) (Zo (st.Qi.length+1) p)).1=0 then ((st.Qi.length+1,0),(Gy s1 (toN P st) (Zo (st.Qi.length+1) p)).2,Y5 st1 p) else ((0,(Gy s1 (toN P st) (Zo (st.Qi.length+1) p)).1),(Gy s1 (toN P st) (Zo (st.Qi.length+1) p)).2,{st1 with dead:=(Gy s1 (toN P st) (Zo (st.Qi.length+1) p)).1 !=6})):=by
 unfold Jz;rw [if_neg (by rw [hd];decide),if_neg (by omega),h,if_pos rfl,<-Qjv]
theorem C1 {st:Jf} {p:List UInt8} (h:Jj st=true):Y5 st p={st with Qi:=st.Qi++[p],Qk:=st.Qk++[(st.Qi.length+1,0+(Zo (st.Qi.length+1) p).length)]}:=by
 unfold Y5;rw [if_pos h,Nat.zero_add]
theorem A6 {st:Jf} {p:List UInt8} {S1:List (Nat×Nat)} {z:Nat×Nat} (h:Jj st=false) (hs:st.Qk=S1++[z]):Y5 st p={st with Qi:=st.Qi++[p],Qk:=S1++[(z.1,z.2+(Zo (st.Qi.length+1) p).length)]}:=by
 unfold Y5 bump;rw [if_neg (by rw [h];decide),hs,List.getLast?_append];simp
def Qy2 (w:World) (d l:Nat) (P:ByteArray) (F G:Nat->Prop) (r:(Nat×Int)×Qz×Jf) (e:Ending) (w':World):Prop:=
 e= .returned (.tuple #[.int .i64 (r.1.1:Int), .int .i64 r.1.2])/\Zu w d l P F G r.2.1 r.2.2 w'
theorem Q9g (w:World) (d l:Nat) (P:ByteArray) (s:Qz) (st:Jf) (F G:Nat->Prop) (h:C0 w d l P s st F G) (hne:st.Qk=[]->st.Qi.length<=st.synced) (Yo:Pow w) (Q65: ¬F 0) (Qbr: ¬G 0) (hP:P.size<=50) (hfew:st.Qi.length+1<1000000) (Q7g:st.Qk.length<=1000000) (hzb: ∀z∈st.Qk,z.2<=1000000000)
  (pa:Option Addr) (pc:Nat) (p:List UInt8) (hp: ∀W,Kp (V2 F G) w W->Rd W W.heap.size pa (u8s p)) (hpl:p.length<=1000000000):
  Calls Tryz.prog 112 #[.pointer (some ⟨l,0,none⟩), .slice pa p.length pc] w (Qy2 w d l P F G (Jz P s st p)):=by
 have hmf: ∀(fn:Fn) (first cap:Array Value) (w:World),(Instr.makeFunc fn first cap).run Tryz.prog w= .ok (.func fn first cap) w:=λ_ _ _ _=>rfl;obtain ⟨sv,ev,E,hC,hE,Q0c,Ku⟩:=h.log;obtain ⟨c0,c1,c2,c3,_,c5,_⟩:=hC.cells;have hll:=Q7 hC.cell;have Q4p:=h.disk.lt;have Q4q:=h.log.lt;obtain ⟨pl,Qbs⟩: ∃pl,pl=p.length:=⟨_,rfl⟩;rw [<-Qbs] at hpl⊢;have H:=zz h;have Qoq:=zz hne;have Dd:=zz Yo;have Je6:=zz (And.intro Q65 Qbr);have El:=zz (And.intro hfew (And.intro Q7g hzb));have HP:=zz hp;have M0:=zz Qbs;have HC:=zz hC;have HE:=zz hE;have Qxb:=zz Q0c;have Ao:=zz Q4p;have Qok:=zz Q4q;have Hv:=zz c5;have Qae:=zz hpl;obtain ⟨W2,hW2⟩: ∃W,W=((w.alloc (.cells #[.pointer (some ⟨l,0,none⟩)] 127)).alloc (.cells #[.int .i64 0] 3)).alloc (.cells #[.int .i64 0] 47):=⟨_,rfl⟩;have hk2:Kp No w W2:=by rw [hW2];exact (((Kp.refl No w).alloc _).alloc _).alloc _
 have Hr:=c5 W2 hk2;rw [hW2] at Hr;have HW2:=zz hW2;have J9:=zz hk2;clear h hE Q0c Ku hC Q4p Q4q hne Yo Q65 Qbr hfew Q7g hzb hp Qbs c5 hW2 hk2;cases hd:st.dead with
 |true=>
  have HQ:=zz (show Jz P s st p=((0,9),s,st) by unfold Jz;rw [if_pos hd]);rw [hd] at Hr;clear hd;go_enter_defers Tryz.func112,Tryz.ntmps112
  go_wp2_with fail
  refine Mt (v:= .tuple #[.int .i64 0, .int .i64 9]) rfl (by simp [results,Tryz.results112,go_sem]) ⟨by rw [HQ.out];rfl,?_⟩;rw [HQ.out];exact Zu.here H.out ((((Kp.refl No w).alloc _).alloc _).alloc _)
 |false=>
  by_cases hlong:262134<pl
  ·have HQ:=zz (show Jz P s st p=((0,5),s,st) by unfold Jz;rw [if_neg (by rw [hd];decide),if_pos (by rw [<-M0.out];exact hlong)]);have e1:decide ((262134:Int)<(pl:Int))=true:=by rw [decide_eq_true_iff];omega
   rw [hd] at Hr;clear hd;go_enter_defers Tryz.func112,Tryz.ntmps112
   go_wp2_with fail
   refine Mt (v:= .tuple #[.int .i64 0, .int .i64 5]) rfl (by simp [results,Tryz.results112,go_sem]) ⟨by rw [HQ.out];rfl,?_⟩;rw [HQ.out];exact Zu.here H.out ((((Kp.refl No w).alloc _).alloc _).alloc _)
  ·have e1:decide ((262134:Int)<(pl:Int))=false:=by rw [decide_eq_false_iff_not];omega
   have HD:=zz hd;rw [hd] at Hr;clear hd;have hpl2:p.length<=262134:=by rw [<-M0.out];omega
   have Fe:=zz hpl2;obtain ⟨b0,hb0⟩: ∃b0,b0=w.heap.size:=⟨_,rfl⟩;have hsz:W2.heap.size=b0+3:=by rw [HW2.out,hb0];simp
   have hAW:J3n w W2 d l b0 F G:=by
    refine ⟨J9.out,hb0,hsz,?_,?_,?_,?_,?_,by rw [hb0];exact hll,Ao.out,Qok.out⟩<;>(rw [HW2.out,hb0];simp [go_sem])
   have Q9v:=zz hAW;have HB0:=zz hb0;have J0i:=Q9v.out.cells (Kp.refl (V2 F G) W2);have hp0:=J0i.1;have hC2:=HC.out.Q9 J9.out;have Qvo:=J9.out.lt hll;obtain ⟨d0,d1,d2,d3,_,_,_⟩:=hC2.cells;obtain ⟨ea,ec,rfl,Qob,_⟩:=hC2.Qi.rd;obtain ⟨en,hen⟩: ∃en,en=E.length:=⟨_,rfl⟩;rw [<-hen] at d3;obtain ⟨k1,hk1⟩: ∃k1,k1=en+1:=⟨_,rfl⟩;have Qxx:st.Qi.length+1=k1:=by rw [hk1,hen,HE.out,List.length_map]
   have hw1:wrap64 ((en:Int)+1)=(k1:Int):=by
    have:=El.out.1;rw [IntWalk.wrap64_in _ (by omega),hk1];push_cast
    rfl
   have hnm:=Qhf P (by omega) k1 (by rw [<-Qxx];exact El.out.1) W2 (Dd.out.keep J9.out);have Qsf:=d0 W2 zK;have J6i:=d1 W2 zK;have Qsg:=d2 W2 zK;have J6k:=d3 W2 zK;have Q2a:=zz hnm;have Q29:=zz Qxx;have Qny:=zz hen;have HC2:=zz hC2;clear hb0 hsz hAW J0i hC2 d0 d1 d2 d3 Qob hen hk1 Qxx hnm hpl2;rcases List.eq_nil_or_concat st.Qk with hsg|⟨S1,z,hsg⟩
   obtain ⟨sa,sc,rfl,_⟩:=HC2.out.Qk.rd;have Q4b:=zz hsg;rw [hsg] at Qsg;have hl0:([]:List (Nat×Nat)).length=0:=rfl;rw [hl0] at Qsg;clear hsg hl0;go_enter_defers Tryz.func112,Tryz.ntmps112
   go_upto_region 8 with fail
   rw [<-HW2.out,<-HB0.out];clear Hr;go_upto_region 11 with fail
   go_wp2_with fail
   have hc:=Q2a.out;with_reducible refine hc.mono ?_
   rintro e w3 ⟨rfl,hk3⟩;clear hc Q2a;have J35:=(hk3.cell (p:=⟨b0,0,none⟩) (by show b0<_;have:=Q9v.out.size;omega) (λx=>x)).trans hp0;have d23:=(hk3.cell (p:=⟨l,2,none⟩) Qvo (λx=>x)).trans Qsg;go_upto_region 16 with fail
   obtain ⟨s1,hs1⟩: ∃s1,s1=s:=⟨_,rfl⟩;obtain ⟨st1,hst1⟩: ∃st1,st1=st:=⟨_,rfl⟩;have Aq:=zz (show Zu W2 d l P F G s1 st1 w3 from by rw [hs1,hst1];exact Zu.here (H.out.no J9.out) hk3);have Q2k:=zz (show Ju P s st=(0,s1,st1) from by rw [hs1,hst1];exact Q8k Q4b.out);have HST:=zz (show st1.Qi=st.Qi/\st1.Qk=st.Qk from by rw [hst1];exact ⟨rfl,rfl⟩);clear hs1 hst1;have Bq:=zz (Et Q4b.out);obtain ⟨tn,htn⟩: ∃tn,tn=X7 P k1:=⟨_,rfl⟩;have Hp:=zz (show tn=toN P st by unfold toN;rw [if_pos Bq.out,Q29.out];exact htn);rw [<-htn];clear htn hk3 Qsf J6i Qsg J6k hp0 hw1 J35 d23;rename World=>wx;rotate_left;rw [List.concat_eq_append] at hsg;have Q4o:=HC2.out;rw [hsg] at Q4o;obtain ⟨sg,Hc,sn,sc,rfl,hsn,Qqa,Qbu,_,Gt,hsc1⟩:=Uk.Q56 Q4o;obtain ⟨m2,hm2⟩: ∃m2,m2=S1.length:=⟨_,rfl⟩;rw [<-hm2] at hsn Gt hsc1;have hms:m2<sn:=by omega
   have hw3:(sn:Int)-1=(m2:Int):=by omega
   obtain ⟨zb,Qwa⟩: ∃zb,zb=z.2:=⟨_,rfl⟩;have Qdv:=Gt W2 zK;have Qle:=hsc1 W2 zK;rw [<-Qwa] at Qle;obtain ⟨zn,hzn⟩: ∃zn,zn=X7 P z.1:=⟨_,rfl⟩;rw [<-hzn] at Qdv;have J2r:z.2<=1000000000:=El.out.2.2 z (by rw [hsg];simp);have Qsc:=zz J2r;have Q4b:=zz hsg;have J67:=zz hzn;have Qzw:=zz Qwa;have Jde:=zz Q4o;have Qzh:=zz Gt;clear Q4o hsn hm2 J2r hsg hzn Qwa Gt hsc1;by_cases hfr:1024<=zb
   have e4:decide ((1024:Int)<=(zb:Int))=true:=by rw [decide_eq_true_iff];omega
   have Bq:=zz (show Jj st=true by rw [Es Q4b.out,<-Qzw.out];exact decide_eq_true hfr);have Qin:=zz (Q3t (P:=P) (s:=s) Bq.out (by rw [Q4b.out];simp));clear hfr;go_enter_defers Tryz.func112,Tryz.ntmps112
   go_upto_region 8 with fail
   rw [<-HW2.out,<-HB0.out];clear Hr;go_upto_region 11 with fail
   go_wp2_with fail
   have hc:=Q2a.out;with_reducible refine hc.mono ?_
   rintro e w3 ⟨rfl,hk3⟩;clear hc Q2a;have J35:=(hk3.cell (p:=⟨b0,0,none⟩) (by show b0<_;have:=Q9v.out.size;omega) (λx=>x)).trans hp0;have d23:=(hk3.cell (p:=⟨l,2,none⟩) Qvo (λx=>x)).trans Qsg;have hsy:=Q3z w3 d l P s st F G (H.out.no (J9.out.Q0 hk3)) Qoq.out;obtain ⟨qs,Qt2⟩: ∃qs,qs=J0 P s st:=⟨_,rfl⟩;obtain ⟨kn,hkn⟩:=Cr P s st;have hsame:=Ol P s st;rw [<-Qt2] at hsy hkn hsame;have Lq:=zz (show Ju P s st=qs by rw [Qt2];exact Qin.out);have Lr:=zz hsame;have U3:=zz hkn;have Zk:=zz hk3;clear Qt2 Qin hkn hsame hk3;go_upto_region 13 with fail
   go_wp2_with fail
   with_reducible refine hsy.mono ?_
   rintro e w4 ⟨hs4,Qq0⟩;clear hsy;have Q4v:Zu W2 d l P F G qs.2.1 qs.2.2 w4:=hs4.from Zk.out
   have Aq:=zz Q4v;clear hs4 Q4v;rw [U3.out] at Qq0;rcases Qq0 with ⟨hz,rfl⟩|⟨hz,rfl⟩
   rotate_left
   ·have hap:=Qja (p:=p) HD.out Fe.out (show (Ju P s st).1≠0 by rw [Lq.out,U3.out];exact hz);rw [Lq.out,U3.out] at hap;refine Ay Q9v.out Aq.out kn _ rfl rfl _ λw'' hw''=>?_;rw [hap];exact ⟨rfl,hw''⟩
   rotate_right;obtain ⟨s1,hs1⟩: ∃s1,s1=qs.2.1:=⟨_,rfl⟩;obtain ⟨st1,hst1⟩: ∃st1,st1=qs.2.2:=⟨_,rfl⟩;rw [<-hs1,<-hst1] at Aq;have Q2k:=zz (show Ju P s st=(0,s1,st1) from by rw [Lq.out,hs1,hst1,<-hz,<-U3.out]);have HST:=zz (show st1.Qi=st.Qi/\st1.Qk=st.Qk from by rw [hst1];exact ⟨Lr.out.1,Lr.out.2.1⟩);obtain ⟨tn,htn⟩: ∃tn,tn=X7 P k1:=⟨_,rfl⟩;have Hp:=zz (show tn=toN P st by unfold toN;rw [if_pos Bq.out,Q29.out];exact htn);rw [<-htn];clear htn hs1 hst1 hz Lq Lr U3 Qsf J6i Qsg J6k hp0 hw1 J35 d23 Qdv Qle;go_upto_region 16 with fail
   rename World=>wx;rotate_left;have e4:decide ((1024:Int)<=(zb:Int))=false:=by rw [decide_eq_false_iff_not];omega
   have Bq:=zz (show Jj st=false by rw [Es Q4b.out,<-Qzw.out];exact decide_eq_false hfr);clear hfr;go_enter_defers Tryz.func112,Tryz.ntmps112
   go_upto_region 8 with fail
   rw [<-HW2.out,<-HB0.out];clear Hr;go_upto_region 11 with fail
   go_wp2_with fail
   have hc:=Q2a.out;with_reducible refine hc.mono ?_
   rintro e w3 ⟨rfl,hk3⟩;clear hc Q2a;have J35:=(hk3.cell (p:=⟨b0,0,none⟩) (by show b0<_;have:=Q9v.out.size;omega) (λx=>x)).trans hp0;have d23:=(hk3.cell (p:=⟨l,2,none⟩) Qvo (λx=>x)).trans Qsg;have J8e:=(hk3.cell (p:=⟨sg,Hc+m2*2,none⟩) Qbu (λx=>x)).trans Qdv;go_upto_region 16 with fail
   obtain ⟨s1,hs1⟩: ∃s1,s1=s:=⟨_,rfl⟩;obtain ⟨st1,hst1⟩: ∃st1,st1=st:=⟨_,rfl⟩;have Aq:=zz (show Zu W2 d l P F G s1 st1 w3 from by rw [hs1,hst1];exact Zu.here (H.out.no J9.out) hk3);have Q2k:=zz (show Ju P s st=(0,s1,st1) from by rw [hs1,hst1];exact Qe7 Bq.out);have HST:=zz (show st1.Qi=st.Qi/\st1.Qk=st.Qk from by rw [hst1];exact ⟨rfl,rfl⟩);clear hs1 hst1;obtain ⟨tn,htn⟩: ∃tn,tn=zn:=⟨_,rfl⟩;have Hp:=zz (show tn=toN P st by unfold toN;rw [if_neg (by rw [Bq.out];decide),Fj Q4b.out,htn];exact J67.out);rw [<-htn];clear htn hk3 Qsf J6i Qsg J6k hp0 hw1 J35 d23 J8e Qdv Qle;rename World=>wx;rotate_left
   all_goals
    have hkx:=Aq.out.kp;have Jh8:=Q9v.out.cells hkx;have hwx:Kp (V2 F G) w wx:=(Kp.Qx J9.out).Q0 hkx;have hpx:=HP.out wx hwx;have Qu3:=zz hpx;have Jdw:=zz hkx;have Jid:=zz hwx;obtain ⟨bw,hbw⟩: ∃bw,bw=wx.heap.size:=⟨_,rfl⟩;obtain ⟨W4,Mz⟩: ∃W,W=(wx.alloc (.cells #[.slice none 0 0] 121)).alloc (.cells #[.int .i64 (k1:Int)] 3):=⟨_,rfl⟩;have k4:Kp No wx W4:=by rw [Mz];exact (zK.alloc _).alloc _
    have hb4:W4.heap[bw]?=some (.cells #[.slice none 0 0] 121 (0,0)):=by
     rw [Mz,hbw];exact Jm (heap_alloc_new wx _) _
    have hg4:W4.cell? ⟨bw+1,0,none⟩=some (.int .i64 (k1:Int)):=by rw [Mz,hbw];simp [go_sem]
    have L5:k1<=1000000000000:=by rw [<-Q29.out];have:=El.out.1;omega
    have Gm:=Quh W4 bw (bw+1) 1 k1 L5 hb4 hg4;have Cx:=zz Gm;have Gf:=zz k4;have Qxj:=zz Mz;have J3o:=zz hbw;have Dh:=zz L5;clear hkx hwx hpx k4 hb4 hg4 Gm Mz hbw L5 Jh8;go_upto_region 17 with fail
    go_wp2_with fail
    rw [<-J3o.out,<-Qxj.out];have hc:=Cx.out;with_reducible refine hc.mono ?_
    rintro e w5 ⟨rfl,na,nc,hb5,Qbp,hf5,hk5⟩;clear hc Cx;have J1h:Kp No wx w5:=Gf.out.trans hk5 λi hi (e:i=bw)=>by have:=J3o.out;omega
    have hou:=Lt w5 bw na nc (Qq k1) hb5 Qbp.rd' (by have:=(Zv k1 Dh.out p).2;omega);have Qd4:=zz hou;have Qyf:=zz J1h;clear hb5 Qbp hf5 hk5 J1h hou;go_upto_region 18 with fail
    go_wp2_with fail
    have hc:=Qd4.out;with_reducible refine hc.mono ?_
    rintro e w6 ⟨oa,oc,rfl,Ib,Qvd,hk6⟩;clear hc Qd4;have Jc9:=Qu3.out.kp (Qyf.out.Q0 hk6);have Qw4:=Hi w6 42 oa pa oc pc (Qq k1) p Ib.rd' Jc9 (by have:=(Zv k1 Dh.out p).2;omega) (by have:=Fe.out;omega);obtain ⟨W7,Qo9⟩: ∃W,W=w6.alloc (.cells #[.slice oa (Qq k1).length oc, .slice pa p.length pc] 42):=⟨_,rfl⟩
    have hen:Calls Tryz.prog 186 #[.slice (some ⟨w6.heap.size,0,none⟩) 2 2] W7 (J50 W7 (Qq k1++p)):=by
     have h:=Qa6 W7 (some ⟨w6.heap.size,0,none⟩) 2 [⟨oa,oc,Qq k1⟩,⟨pa,pc,p⟩] (by rw [Qo9];exact Qw4.1) (Nat.le_refl _) (by show 2<=_;omega) (by
      rw [Q6u,List.length_append];have:=(Zv k1 Dh.out p).2;have:=Fe.out;omega)
     rw [Q6u] at h;exact h
    have Q7q:Kp No w6 W7:=by rw [Qo9];exact Qw4.2
    obtain ⟨nl,hnl⟩: ∃nl,nl=(Qq k1).length:=⟨_,rfl⟩;rw [<-hnl,<-M0.out] at Qo9;rw [<-hnl];have Qny:=zz hen;have M7:=zz ((Qyf.out.Q0 hk6).Q0 Q7q);have Qo2:=zz Qo9;clear Jc9 Qw4 hen Q7q hnl Qo9 Ib Qvd hk6;go_wp2_with fail
    rw [<-Qo2.out];have hc:=Qny.out;with_reducible refine hc.mono ?_
    rintro e w8 ⟨fa,fc,rfl,Ql6,hk8⟩;clear hc Qny;have Dz:Kp No wx w8:=M7.out.Q0 hk8;obtain ⟨F1,G1,hW1,hF1,hG1,hK1⟩:=Aq.out;have hc8:=Q9v.out.cells (Jdw.out.Qr Dz);have J85:=hc8.1;have Jg7:=hW1.log.Q9 Dz;obtain ⟨Qy1,Qxq,Ex,Qb6,Quw,_,_⟩:=Jg7;have J7v:=Qb6.cells.1 w8 zK;have Qbl:=Q7 Qb6.cell;have J7c:b0<w8.heap.size:=by have:=hc8.2.2.2.2.2;omega
    have hgo:=Qdo w8
    have hwr:=Qf6 w8 d s1 F1 (hW1.disk.Q9 Dz) tn fa fc (Zo k1 p) Ql6 (by
     have:=(Zv k1 Dh.out p);have:=Fe.out;omega)
    obtain ⟨q,hq⟩: ∃q,q=Gy s1 tn (Zo k1 p):=⟨_,rfl⟩;have hqc:=Ai s1 tn (Zo k1 p);rw [<-hq] at hwr hqc;obtain ⟨fl,hfl⟩: ∃fl,fl=(Zo k1 p).length:=⟨_,rfl⟩;rw [show (Jt (Qq k1++p)).length=fl from hfl.symm];rw [<-hfl] at hwr;have De:=zz hwr;have HQ:=zz hq;have Qeu:=zz hfl;have Br:=zz Dz;have HW1:=zz (And.intro hW1 (And.intro hF1 (And.intro hG1 hK1)));clear Ql6 hk8 Dz hW1 hF1 hG1 hK1 hc8 Qb6 Quw hwr hq hfl;go_wp2_with fail
    with_reducible refine hgo.mono ?_
    rintro e w9 ⟨rfl,rfl⟩;clear hgo;go_wp2_with fail
    have hc:=De.out;with_reducible refine hc.mono ?_
    rintro e w9 ⟨rfl,F9,Jbi,Qb8,hK9⟩;clear hc De;obtain ⟨qc,hqe⟩: ∃qc,qc=q.1:=⟨_,rfl⟩;rw [<-hqe] at hqc⊢;have hga:=Q6y qc hqc.1 hqc.2 w9;have Jbt:Zu W2 d l P F G q.2 st1 w9:=Zu.trans ⟨F1,G1,HW1.out.1,HW1.out.2.1,HW1.out.2.2.1,HW1.out.2.2.2,F9,G1,(HW1.out.1.no Br.out).Q1w Jbi Qb8 hK9,λk hk=>(Qb8 k hk).imp id λh=>Nat.le_trans Br.out.size h,Je.refl _ _,((Kp.Qx Br.out).Q0 hK9).mono λ_ _ x=> .inl x⟩;have Jan:=zz Jbt;have Q2b:=zz hqe;clear Jbi Qb8 hK9 Jbt hqe J85 J7v Qbl J7c;go_wp2_with fail
    with_reducible refine hga.mono ?_
    rintro e w' ⟨Qq0,rfl⟩;clear hga;rcases Qq0 with ⟨hz,rfl⟩|⟨hz,rfl⟩
    rotate_left
    ·obtain ⟨kn,hkn⟩:=Int.eq_ofNat_of_zero_le hqc.1;have hap:=C2 (p:=p) HD.out Fe.out Q2k.out;rw [Q29.out,<-Hp.out,<-HQ.out,if_neg (by rw [<-Q2b.out];exact hz),<-Q2b.out,hkn] at hap;rw [hkn];refine Ay Q9v.out Jan.out kn _ rfl rfl _ λw'' hw''=>?_;rw [hap];exact ⟨rfl,hw''⟩
    obtain ⟨F2,G2,Qv5,hF2,hG2,Qv0⟩:=Jan.out;obtain ⟨J9p,J6p,E9,Fh,Qdp,_⟩:=Vg.start Qv5.log;have Qoa:=Q9v.out.cells Qv0;have Jg1:=Qoa.1;have hs9:=Qoa.2.2.2.2.2;have h0:=Q9v.out.J07;have hsz:=Q9v.out.size;have Jgt:=Q9v.out.ll
    have hgb: ∀k,G2 k->k<b0\/b0+2<k:=λk hk=>by
     rcases hG2 k hk with h1|h1
     ·have:=Qok.out k h1;omega
     ·omega
    have hGn: ∀i,b0<=i->i<=b0+2-> ¬G2 i:=λi h1 h2 h3=>by have:=hgb i h3;omega
    have HB:=zz (And.intro Qv5 (And.intro hF2 (And.intro hG2 (And.intro Qv0 Qdp))));have Q62:=zz hGn;have Vc:=zz Fh;have Qa8:=zz Qoa;clear Qv5 hF2 hG2 Qv0 Qdp hgb hGn Fh Qoa h0 hsz;obtain ⟨Q2f,Q2g,rfl,_,_⟩:=Vc.out.c.Qk.rd;obtain ⟨Lk,Ll,rfl,_,_⟩:=Vc.out.c.Qi.rd;obtain ⟨Ge,Q0d⟩: ∃Ge,Ge=E9.length:=⟨_,rfl⟩;have Hw:=zz Q0d;have Qkd:b0<w9.heap.size:=by omega
    have Dx:Ge<=1000000:=by
     have h1:=HB.out.2.2.2.2;have h2:=congrArg List.length h1;rw [List.length_map,HST.out.1] at h2;have h3:=El.out.1;omega
    have An:=zz Dx;clear Q0d Dx
   iterate 2
    obtain ⟨Kw,Fz⟩: ∃Kw,Kw=st1.Qk.length:=⟨_,rfl⟩;have Qt5:Kw<=1000000:=by rw [Fz,HST.out.2];exact El.out.2.1
    have Qky:=Q7 Vc.out.c.cell
    have Qq4: ∀k,(Value.slice Q2f Kw Q2g).ownBlock=some k->k≠l/\ ¬k=b0/\k<w9.heap.size:=λk hk=>by
     rw [Fz] at hk;refine ⟨(Vc.out.c.Xf hk).1,λe=>?_,Vc.out.c.Qk.lt k hk⟩;rcases Vc.out.foot k (.inr (.inl hk)) with h1|h1
     ·exact Q62.out k (by omega) (by omega) h1
     ·have:=Vc.out.c.Qk.lt k hk;omega
    have hS0: ∀W,Kp (λk=>(Value.slice Q2f Kw Q2g).ownBlock=some k) w9 W->W.cell? ⟨b0,0,none⟩=some (.pointer (some ⟨l,0,none⟩)):=λW hW=>(hW.cell (p:=⟨b0,0,none⟩) Qkd (λh=>(Qq4 b0 h).2.1 rfl)).trans Jg1
    have hS2: ∀W,Kp (λk=>(Value.slice Q2f Kw Q2g).ownBlock=some k) w9 W->W.cell? ⟨l,2,none⟩=some (.slice Q2f Kw Q2g):=λW hW=>by
     rw [hW.cell (p:=⟨l,2,none⟩) Qky (λh=>(Qq4 l h).1 rfl),Q4 Vc.out.c.cell,Fz];rfl
    have Jbu: ∀W,Kp (λk=>(Value.slice Q2f Kw Q2g).ownBlock=some k) w9 W->W.frozen? ⟨l,2,none⟩=false:=λW hW=>by
     rw [hW.frozen (p:=⟨l,2,none⟩) Qky (λh=>(Qq4 l h).1 rfl)];exact Qh Vc.out.c.cell 2
    have Qud:=zz Fz;clear Fz;go_upto_region 22 with fail
    refine Jk (Kp (λk=>(Value.slice Q2f Kw Q2g).ownBlock=some k) w9) [0,0,0,0,0,0,0,2,2,0,0,2] [0,1,2,3,4,5,6,7,8,9,10] 11 (by kernel_rfl) (by kernel_rfl) (λ_ n h=>h.drewN n) zK ?_;repeat (first|refine zA ?_|refine zB ?_|refine zC ?_)
    refine Q8 rfl rfl (λn7=>?_);go_wp2_with fail
    obtain ⟨w10,Qqc⟩: ∃W,W=(w9.drewN n7).alloc (.cells #[.string tn, .int .i64 0] 243):=⟨_,rfl⟩;have J0f:w10.heap[w9.heap.size]?=some (.cells #[.string tn, .int .i64 0] 243 (0,0)):=by rw [Qqc];exact heap_alloc_new (w9.drewN n7) _
    have k10:Kp No w9 w10:=by rw [Qqc];exact (zK.drewN n7).alloc _
    rw [<-Qqc];clear Qqc;refine ⟨Kp.Qx k10,?_⟩;refine Q8 rfl rfl (λn8=>?_);have hlr:Vg w9 (w10.drewN n8) l d P (.slice Q2f Kw Q2g) (.slice Lk E9.length Ll) st1.Qk E9 st1.synced st1.dead G2:=by rw [Qud.out];exact Vc.out.no (k10.drewN n8)
    have hos:Own (w10.drewN n8) 243 2 (.slice Q2f Kw Q2g) Kw (st1.Qk.flatMap (Q1j P)):=by have:=hlr.c.Qk;rw [<-Qud.out] at this;exact this
    have J2k:tn=X7 P k1:=by
     have h1:=Hp.out;unfold toN at h1;rw [if_pos Bq.out,Q29.out] at h1;exact h1
    obtain ⟨a',c',Hl,hrn,ho',O9,I8⟩:=Oh (T:=239) (E:=243) (sz:=2) (bytes:=24) Tryz.underlying239 Qqe hos (news:=Q1j P (k1,0)) (Qmy P (k1,0)) rfl (g:=w9.heap.size) (cs:= #[.string tn, .int .i64 0]) J0f (by rw [J2k];rfl) (by omega) (by omega);have kS:Kp (λk=>(Value.slice Q2f Kw Q2g).ownBlock=some k) w9 Hl:=(Kp.Qx (k10.drewN n8)).Q0 O9;have Qua:=zz hrn;have Qad:=zz ho';have Q49:=zz O9;have Qnv:=zz I8;have Qab:=zz hlr;clear hrn ho' O9 I8 hlr hos J2k J0f;refine wpList_append_run rfl rfl rfl rfl Qua.out (wpList_nil ⟨rfl,kS,?_⟩);repeat (first|refine zA ?_|refine zB ?_|refine zC ?_)
    refine Yu (λn11=>?_);refine Q8 rfl rfl (λn12=>?_);obtain ⟨w12,Q50⟩: ∃W,W=(Hl.drewN n11).drewN n12:=⟨_,rfl⟩;have k12:Kp (λk=>(Value.slice Q2f Kw Q2g).ownBlock=some k) (w10.drewN n8) w12:=by rw [Q50];exact (Q49.out.drewN n11).drewN n12
    have Qqi:Kp (λk=>(Value.slice Q2f Kw Q2g).ownBlock=some k) w9 w12:=by rw [Q50];exact (kS.drewN n11).drewN n12
    have J20:Own w12 243 2 (.slice a' (Kw+1) c') (Kw+1) (st1.Qk.flatMap (Q1j P)++Q1j P (k1,0)):=by rw [Q50];exact Qad.out
    rw [<-Q50];have hc12:=hS2 w12 Qqi;have J7k:=Jbu w12 Qqi;have hl12:=Qqi.lt Qky;have hnew:=Qab.out.J4x (S':=st1.Qk++[(k1,0)]) (W':=w12) (sv':= .slice a' (Kw+1) c') k12 (by rw [List.length_append,List.length_singleton,<-Qud.out,List.flatMap_append,List.flatMap_cons,List.flatMap_nil,List.append_nil];exact J20) Qnv.out;have Y4:=zz hnew;clear hnew Q50 k12 Qqi J20 k10;go_wp2_with fail
    intro nr;obtain ⟨E1,N1⟩: ∃W,W=(w12.setCell ⟨l,2,none⟩ (.slice a' (Kw+1) c')).drewN nr:=⟨_,rfl⟩;have D4:=zz (show Vg w9 E1 l d P (.slice a' (Kw+1) c') (.slice Lk E9.length Ll) (st1.Qk++[(k1,0)]) E9 st1.synced st1.dead G2 from by rw [N1];exact Y4.out.no ((Kp.refl No _).drewN nr));rw [<-N1];clear N1 hc12 J7k hl12 kS hS0 hS2 Jbu Qq4 Y4 Qab Q49 Qnv Qad;obtain ⟨y,hy⟩: ∃y:Nat×Nat,y=(k1,0):=⟨_,rfl⟩;obtain ⟨S3,hS3⟩: ∃S,S=st1.Qk:=⟨_,rfl⟩;have Qzv:=zz (show y.2<=1000000000 by rw [hy];exact Nat.zero_le _);have Q46:=zz (show Y5 st1 p={st1 with Qi:=st1.Qi++[p],Qk:=S3++[(y.1,y.2+fl)]} by rw [hy,hS3,C1 (show Jj st1=true by unfold Jj;rw [HST.out.2];exact Bq.out),HST.out.1,Q29.out,<-Qeu.out]);rw [<-hy,<-hS3] at D4;clear hy hS3;rotate_left
   obtain ⟨E1,N1⟩: ∃W,W=w9:=⟨_,rfl⟩
   have D4:Hid (Vg w9 E1 l d P (.slice Q2f st1.Qk.length Q2g) (.slice Lk E9.length Ll) (S1++[z]) E9 st1.synced st1.dead G2):=by
    rw [N1];have h1:=Vc.out;have h2:st1.Qk=S1++[z]:=HST.out.2.trans Q4b.out
    have h3:Vg w9 w9 l d P (.slice Q2f st1.Qk.length Q2g) (.slice Lk E9.length Ll) (S1++[z]) E9 st1.synced st1.dead G2:=by
     rw [h2] at h1⊢;exact h1
    exact zz h3
   rw [<-N1];clear N1;obtain ⟨y,hy⟩: ∃y,y=z:=⟨_,rfl⟩;obtain ⟨S3,hS3⟩: ∃S,S=S1:=⟨_,rfl⟩;have Qzv:=zz (show y.2<=1000000000 by rw [hy];exact Qsc.out);have Q46:=zz (show Y5 st1 p={st1 with Qi:=st1.Qi++[p],Qk:=S3++[(y.1,y.2+fl)]} by rw [hy,hS3,A6 (show Jj st1=false by unfold Jj;rw [HST.out.2];exact Bq.out) (HST.out.2.trans Q4b.out),HST.out.1,Q29.out,<-Qeu.out]);rw [<-hy,<-hS3] at D4;clear hy hS3
   all_goals
    obtain ⟨yb,hyb⟩: ∃yb,yb=(y:Nat×Nat).2:=⟨_,rfl⟩;have Jhc:yb<=1000000000:=by rw [hyb];exact Qzv.out
    obtain ⟨lg,Q85,ln,Qql,J81,hln,Jgu,J1r,J1q,_,hlc⟩:=Uk.Q56 D4.out.c;injection J81 with hl1 hl2 hl3;rw [hl1,hl2,hl3] at D4;obtain ⟨m3,Qvq⟩: ∃m3,m3=(S3).length:=⟨_,rfl⟩;rw [<-Qvq] at hln hlc;rw [<-hyb] at hlc;have Jc5:(ln:Int)-1=(m3:Int):=by omega
    have J82:m3<ln:=by omega
    obtain ⟨v,hv⟩: ∃v,v=yb+fl:=⟨_,rfl⟩
    have Jgk:fl<=1000000:=by
     rw [Qeu.out];have:=Zv k1 Dh.out p;have:=Fe.out;omega
    have hwv:=zz (show (yb:Int)+(fl:Int)=(v:Int) from by rw [hv];push_cast;rfl);have Q7a:Kp G2 w9 E1:=D4.out.kp
    have Qks: ∀i,b0<=i->i<=b0+2->i<w9.heap.size-> ∀q:Addr,q.block=i->E1.cell? q=w9.cell? q/\E1.frozen? q=w9.frozen? q:=λi h1 h2 h3 q hq=>by
     rw [<-hq] at h1 h2 h3;exact ⟨Q7a.cell h3 (Q62.out _ h1 h2),Q7a.frozen h3 (Q62.out _ h1 h2)⟩
    have Qwm:E1.cell? ⟨b0,0,none⟩=some (.pointer (some ⟨l,0,none⟩)):=((Qks b0 (Nat.le_refl _) (by omega) Qkd _ rfl).1).trans Qa8.out.1;have Qsu:=Q7a.lt Qkd;have Jc0:b0+2<E1.heap.size:=by have:=Q7a.size;omega
    have Q2n:=D4.out.c;have Qdu:=Q7 Q2n.cell;have g0: ∀W,Kp No E1 W->W.cell? ⟨b0,0,none⟩=some (.pointer (some ⟨l,0,none⟩)):=λW hW=>(hW.cell (p:=⟨b0,0,none⟩) Qsu (λx=>x)).trans Qwm
    have g2: ∀W,Kp No E1 W->W.cell? ⟨l,2,none⟩=some (.slice (some ⟨lg,Q85,none⟩) ln Qql):=λW hW=>by
     rw [Q4 (Q2n.Q9 hW).cell];rfl
    have Jdr:=zz hv;have J5n:=zz Qvq;have Em:=zz hln;have HKB:=zz Qks;have Jdo:=zz J1q;have Jes:=zz hyb;clear hv Qvq hln Qks J1q Q7a hyb hl1 hl2 hl3 Q2n;go_upto_region 23 with fail
    refine Ml (Kp No E1) [0,0,0,0,0,0,0,0,1,0,0,0,0,0,1,0,0,0,2] [0,1,2,3,4,5,6,7,13,8,9,10,11,12,14,15,16,17] 18 [] (by kernel_rfl) (by kernel_rfl) (λ_ n h=>h.drewN n) zK ?_;repeat (first|refine zA ?_|refine zB ?_|refine zC ?_)
    refine Qdj (λn1=>?_);refine Li rfl ?_;obtain ⟨Qeo,Cb⟩: ∃W,W=E1.drewN n1:=⟨_,rfl⟩;have Qkp:Kp No E1 Qeo:=by rw [Cb];exact (Kp.refl No E1).drewN n1
    rw [<-Cb];have J1t:=hlc Qeo Qkp;have J1p:Qeo.frozen? ⟨lg,Q85+m3*2+1,none⟩=false:=(Qkp.frozen (p:=⟨lg,Q85+m3*2+1,none⟩) J1r (λx=>x)).trans (Jdo.out _);have J1s:=Qkp.lt J1r;have Qym:=zz (D4.out.no Qkp);obtain ⟨w16,hw16⟩: ∃W,W=Qeo.setCell ⟨lg,Q85+m3*2+1,none⟩ (.int .i64 (v:Int)):=⟨_,rfl⟩
    have Qii:=zz (show Vg w9 w16 l d P (.slice (some ⟨lg,Q85,none⟩) ln Qql) (.slice Lk E9.length Ll) (S3++[((y:Nat×Nat).1,v)]) E9 st1.synced st1.dead G2 from by
     have hO:=Qym.out.c.Qk;have hlen:(S3++[(y:Nat×Nat)]).length=ln:=by rw [List.length_append,List.length_singleton,<-J5n.out,Em.out]
     rw [hlen] at hO;have h1:=Mer.Q5i hO (m3*2+1) (by omega) (.int .i64 (v:Int));have hlt:m3<(S3++[(y:Nat×Nat)]).length:=by rw [hlen];exact J82
     have hget:(S3++[(y:Nat×Nat)])[m3]'hlt=y:=by simp [J5n.out]
     rw [C4 (Q1j P) 2 (Q96 P) _ hlt (by omega) (x:=((y:Nat×Nat).1,v)) (by rw [hget];rfl)] at h1;have hset:(S3++[(y:Nat×Nat)]).set m3 ((y:Nat×Nat).1,v)=S3++[((y:Nat×Nat).1,v)]:=by simp [J5n.out]
     rw [hset] at h1;rw [hw16];refine Qym.out.J9k ((Kp.refl (λk=>(Value.slice (some ⟨lg,Q85,none⟩) ln Qql).ownBlock=some k) Qeo).setCell (p:=⟨lg,Q85+m3*2+1,none⟩) (.inl rfl) _) ?_;rw [show (S3++[((y:Nat×Nat).1,v)]).length=ln by rw [<-hlen];simp];rw [Nat.add_assoc];exact h1)
    have J62:=zz hw16;clear Cb hw16 Qkp;go_wp2_with fail
    refine Q41 ?_;rw [hwv.out];rw [<-J62.out];clear J1t J1p J1s hlc g0 g2 Qwm Qsu;have Qdt:Kp G2 w9 w16:=Qii.out.kp;have Qft:=Qii.out.c;have Qkx:=Q7 Qft.cell
    have Qt8:Kp (V2 F G) w w16:=(((Kp.Qx J9.out).Q0 HB.out.2.2.2.1).trans (T:=G2) Qdt λi hi hg=>by
     rcases HB.out.2.2.1 i hg with h1|h1
     ·exact .inr h1
     ·have:=Q9v.out.size;have:=Q9v.out.J07;omega)
    have Qk8: ∀k,(Value.slice Lk Ge Ll).ownBlock=some k->k≠l/\ ¬k=b0/\k<w16.heap.size:=λk hk=>by
     rw [Hw.out] at hk;refine ⟨(Qft.V4 hk).1,λe=>?_,Qft.Qi.lt k hk⟩;rcases Qii.out.foot k (.inr (.inr (.inl hk))) with h1|h1
     ·exact Q62.out k (by omega) (by omega) h1
     ·omega
    have Qsv:=Qdt.lt Qkd;have p16:w16.cell? ⟨b0,0,none⟩=some (.pointer (some ⟨l,0,none⟩)):=(Qdt.cell (p:=⟨b0,0,none⟩) Qkd (Q62.out b0 (Nat.le_refl _) (by omega))).trans Qa8.out.1;have e0: ∀W,Kp (λk=>(Value.slice Lk Ge Ll).ownBlock=some k) w16 W->W.cell? ⟨b0,0,none⟩=some (.pointer (some ⟨l,0,none⟩)):=λW hW=>(hW.cell (p:=⟨b0,0,none⟩) Qsv (λh=>(Qk8 b0 h).2.1 rfl)).trans p16
    have e3: ∀W,Kp (λk=>(Value.slice Lk Ge Ll).ownBlock=some k) w16 W->W.cell? ⟨l,3,none⟩=some (.slice Lk Ge Ll):=λW hW=>by
     rw [hW.cell (p:=⟨l,3,none⟩) Qkx (λh=>(Qk8 l h).1 rfl),Q4 Qft.cell,Hw.out];rfl
    have Jb9: ∀W,Kp (λk=>(Value.slice Lk Ge Ll).ownBlock=some k) w16 W->W.frozen? ⟨l,3,none⟩=false:=λW hW=>by
     rw [hW.frozen (p:=⟨l,3,none⟩) Qkx (λh=>(Qk8 l h).1 rfl)];exact Qh Qft.cell 3
    have Qzs:=zz Qt8;have Jdj:=zz Qk8;clear Qt8 Qk8 Qft Qdt;go_upto_region 24 with fail
    refine Jk (Kp (λk=>(Value.slice Lk Ge Ll).ownBlock=some k) w16) [0,0,0,0,0,0,2,2,2,0,0,2] [0,1,2,3,4,5,6,7,8,9,10] 11 (by kernel_rfl) (by kernel_rfl) (λ_ n h=>h.drewN n) zK ?_;repeat (first|refine zA ?_|refine zB ?_|refine zC ?_)
    refine Q8 rfl rfl (λn6=>?_);have hcl:=Ni pa pc p w16.heap.size (w16.drewN n6) ((HP.out w16 Qzs.out).drewN n6) (by have:=Fe.out;omega);rw [<-M0.out] at hcl;go_wp2_with fail
    with_reducible refine hcl.mono ?_
    rintro e Qhc ⟨cv,rfl,hoc,J1g,hfc⟩;clear hcl;obtain ⟨_,ca,cc,rfl,hpc,_⟩:=id hoc;have J3z:=zz hoc;have J5d:=zz hfc;have Qih:=zz (show Kp No w16 Qhc from J1g.Qf);have Je4:=zz hpc;clear hoc hfc J1g hpc;go_wp2_with fail
    refine ⟨Kp.Qx Qih.out,?_⟩;refine Q8 rfl rfl (λn7=>?_);go_wp2_with fail
    obtain ⟨Q67,Cc⟩: ∃W,W=(Qhc.drewN n7).alloc (.cells #[.slice ca pl cc] 42):=⟨_,rfl⟩;have Qk7:Q67.heap[Qhc.heap.size]?=some (.cells #[.slice ca pl cc] 42 (0,0)):=by rw [Cc];exact heap_alloc_new (Qhc.drewN n7) _
    have k18:Kp No Qhc Q67:=by rw [Cc];exact (zK.drewN n7).alloc _
    rw [<-Cc];clear Cc;have Qdy:Kp No w16 Q67:=Qih.out.Q0 k18;refine ⟨Kp.Qx Qdy,?_⟩;refine Q8 rfl rfl (λn8=>?_);have hlr:Vg w9 (Q67.drewN n8) l d P (.slice (some ⟨lg,Q85,none⟩) ln Qql) (.slice Lk Ge Ll) (S3++[((y:Nat×Nat).1,v)]) E9 st1.synced st1.dead G2:=by rw [Hw.out];exact Qii.out.no (Qdy.drewN n8)
    have hoe:Own (Q67.drewN n8) 42 1 (.slice Lk Ge Ll) Ge (E9.flatMap Iq):=by have:=hlr.c.Qi;rw [<-Hw.out] at this;exact this
    obtain ⟨a',c',J3j,hrn,ho',O9,I8⟩:=Oh (T:=187) (E:=42) (sz:=1) (bytes:=24) Tryz.underlying187 Q7m hoe (news:=Iq ⟨ca,cc,p⟩) (Q8y _) rfl (g:=Qhc.heap.size) (cs:= #[.slice ca pl cc]) Qk7 (by rw [M0.out];rfl) (by have:=An.out;omega) (by have:=An.out;omega);have kS:Kp (λk=>(Value.slice Lk Ge Ll).ownBlock=some k) w16 J3j:=(Kp.Qx (Qdy.drewN n8)).Q0 O9;have Qua:=zz hrn;have Qad:=zz ho';have Q49:=zz O9;have Qnv:=zz I8;have Qab:=zz hlr;have Qtt:=zz (k18.drewN n8);clear hrn ho' O9 I8 hlr hoe Qk7 k18 Qdy;refine wpList_append_run rfl rfl rfl rfl Qua.out (wpList_nil ⟨rfl,kS,?_⟩);repeat (first|refine zA ?_|refine zB ?_|refine zC ?_)
    refine Yu (λn9=>?_);refine Q8 rfl rfl (λn10=>?_);obtain ⟨Qcm,Q0l⟩: ∃W,W=(J3j.drewN n9).drewN n10:=⟨_,rfl⟩;have k20:Kp (λk=>(Value.slice Lk Ge Ll).ownBlock=some k) (Q67.drewN n8) Qcm:=by rw [Q0l];exact (Q49.out.drewN n9).drewN n10
    have Q54:Kp (λk=>(Value.slice Lk Ge Ll).ownBlock=some k) w16 Qcm:=by rw [Q0l];exact (kS.drewN n9).drewN n10
    have Ql0:Own Qcm 42 1 (.slice a' (Ge+1) c') (Ge+1) (E9.flatMap Iq++Iq ⟨ca,cc,p⟩):=by rw [Q0l];exact Qad.out
    rw [<-Q0l];have Qv8:=e3 Qcm Q54;have Qvb:=Jb9 Qcm Q54;have Qvl:=Q54.lt Qkx
    have Ql1:Dg (Q67.drewN n8) ⟨ca,cc,p⟩:=by
     refine ⟨?_,?_,?_⟩
     ·have:=J3z.out;rw [M0.out] at this;exact this.keep Qtt.out λ_ _ x=>x
     ·show p.length<=cc
      rw [<-M0.out];exact Je4.out
     ·show p.length<=1000000000
      have:=Fe.out;omega
    have hnew:=Qab.out.J6o (r:=⟨ca,cc,p⟩) (W':=Qcm) (ev':= .slice a' (Ge+1) c') Ql1
     (λg hg=> .inr (by
      have h1:=J5d.out g (by rw [M0.out];exact hg);have h2:w16.heap.size<=g:=h1;have h3:=Qii.out.kp.size;omega)) k20
     (by rw [List.length_append,List.length_singleton,<-Hw.out,List.flatMap_append,List.flatMap_cons,List.flatMap_nil,List.append_nil];exact Ql0) Qnv.out
    have Y4:=zz hnew;clear hnew Q0l k20 Q54 Ql0 Ql1;go_wp2_with fail
    intro nr;obtain ⟨Q68,Qbw⟩: ∃W,W=(Qcm.setCell ⟨l,3,none⟩ (.slice a' (Ge+1) c')).drewN nr:=⟨_,rfl⟩;have Qol:=zz (Y4.out.no (show Kp No _ Q68 from by rw [Qbw];exact (Kp.refl No _).drewN nr));rw [<-Qbw];clear Qbw Qv8 Qvb Qvl kS e0 e3 Jb9 p16 Qsv;have Qbh:Kp G2 w9 Q68:=Qol.out.kp;have q1:Q68.cell? ⟨b0+1,0,none⟩=some (.int .i64 0):=(Qbh.cell (p:=⟨b0+1,0,none⟩) (by show b0+1<_;omega) (Q62.out (b0+1) (by omega) (by omega))).trans Qa8.out.2.1;have Jjh:Q68.frozen? ⟨b0+1,0,none⟩=false:=(Qbh.frozen (p:=⟨b0+1,0,none⟩) (by show b0+1<_;omega) (Q62.out (b0+1) (by omega) (by omega))).trans Qa8.out.2.2.1;have q2:Q68.cell? ⟨b0+1+1,0,none⟩=some (.int .i64 0):=(Qbh.cell (p:=⟨b0+1+1,0,none⟩) (by show b0+1+1<_;omega) (Q62.out (b0+1+1) (by omega) (by omega))).trans Qa8.out.2.2.2.1;have Jji:Q68.frozen? ⟨b0+1+1,0,none⟩=false:=(Qbh.frozen (p:=⟨b0+1+1,0,none⟩) (by show b0+1+1<_;omega) (Q62.out (b0+1+1) (by omega) (by omega))).trans Qa8.out.2.2.2.2.1;have J7e:b0+1+1<Q68.heap.size:=by have:=Qbh.size;omega
    have J5j:=zz Qbh;clear Qbh;go_wp2_with fail
    have r1:((Q68.setCell ⟨b0+1,0,none⟩ (.int .i64 (k1:Int))).setCell ⟨b0+1+1,0,none⟩ (.int .i64 0)).cell? ⟨b0+1,0,none⟩=some (.int .i64 (k1:Int)):=by
     have hk:=(Kp.refl (One (b0+1+1)) (Q68.setCell ⟨b0+1,0,none⟩ (.int .i64 (k1:Int)))).setCell (p:=⟨b0+1+1,0,none⟩) (.inl rfl) (.int .i64 0);rw [hk.cell (p:=⟨b0+1,0,none⟩) (by simp [World.setCell];omega) (by show ¬b0+1=b0+1+1;omega)];simp [go_sem,q1]
    have r2:((Q68.setCell ⟨b0+1,0,none⟩ (.int .i64 (k1:Int))).setCell ⟨b0+1+1,0,none⟩ (.int .i64 0)).cell? ⟨b0+1+1,0,none⟩=some (.int .i64 0):=by
     have hk:=(Kp.refl (One (b0+1)) Q68).setCell (p:=⟨b0+1,0,none⟩) (.inl rfl) (.int .i64 (k1:Int));have h2:=(hk.cell (p:=⟨b0+1+1,0,none⟩) J7e (by show ¬b0+1+1=b0+1;omega)).trans q2;simp [go_sem,h2]
    have k24:Kp (λi=>i=b0+1\/i=b0+1+1) Q68 ((Q68.setCell ⟨b0+1,0,none⟩ (.int .i64 (k1:Int))).setCell ⟨b0+1+1,0,none⟩ (.int .i64 0)):=
     ((Kp.refl (λi=>i=b0+1\/i=b0+1+1) Q68).setCell (p:=⟨b0+1,0,none⟩) (.inl (.inl rfl)) _).setCell (p:=⟨b0+1+1,0,none⟩) (.inl (.inr rfl)) _
    obtain ⟨Jd4,J2p⟩: ∃W,W=(Q68.setCell ⟨b0+1,0,none⟩ (.int .i64 (k1:Int))).setCell ⟨b0+1+1,0,none⟩ (.int .i64 0):=⟨_,rfl⟩;rw [<-J2p] at r1 r2 k24⊢;clear J2p;have hap:=C2 (p:=p) HD.out Fe.out Q2k.out;rw [Q29.out,<-Hp.out,<-HQ.out,if_pos (by rw [<-Q2b.out];exact hz)] at hap;have hadd:Y5 st1 p={st1 with Qi:=st1.Qi++[p],Qk:=S3++[((y:Nat×Nat).1,(y:Nat×Nat).2+fl)]}:=Q46.out;obtain ⟨G3,hL3,hG3,hK3⟩:=Qol.out.stop;have Qv4:=HB.out.1.Q1x hL3 hG3 hK3;have h0:=Q9v.out.J07;have hsz:=Q9v.out.size
    have J6y: ∀g,F2 g-> ¬(g=b0+1\/g=b0+1+1):=λg hg hb=>by
     rcases HB.out.2.1 g hg with h1|h1
     ·have:=Ao.out g h1;omega
     ·omega
    have J73: ∀g,G3 g-> ¬(g=b0+1\/g=b0+1+1):=λg hg hb=>by
     rcases hG3 g hg with h1|h1
     ·exact Q62.out g (by omega) (by omega) h1
     ·omega
    have J0r:C0 Jd4 d l P q.2 _ F2 G3:=⟨Qv4.disk.keep k24 J6y,Qv4.log.keep k24 J73,Qv4.sep⟩
    have hst:(⟨(E9++[(⟨ca,cc,p⟩:Row)]).map Row.data,S3++[((y:Nat×Nat).1,v)],st1.synced,st1.dead⟩:Jf)=Y5 st1 p:=by
     rw [hadd,List.map_append,<-HB.out.2.2.2.2,Jdr.out,Jes.out];rfl
    rw [hst] at J0r
    have hfin:Zu w d l P F G q.2 (Y5 st1 p) Jd4:=by
     refine ⟨F2,G3,J0r,λg hg=>(HB.out.2.1 g hg).imp id λh=>Nat.le_trans J9.out.size h,λg hg=>?_,?_⟩
     ·rcases hG3 g hg with h1|h1
      ·exact (HB.out.2.2.1 g h1).imp id λh=>Nat.le_trans J9.out.size h
      ·right;omega
     ·refine ((((Kp.Qx J9.out).Q0 HB.out.2.2.2.1).trans (T:=G2) J5j.out λi hi hg=>?_).trans k24 λi hi hb=>by omega);rcases HB.out.2.2.1 i hg with h1|h1
      ·exact .inr h1
      ·omega
    refine Qj8 r1 r2 _ rfl rfl _ ?_;rw [hap];exact ⟨rfl,hfin⟩
end Go.Proofs.YtgnkmjeoaoongaaGreatDoor
