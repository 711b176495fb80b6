/-
  XEnc, XAppend.
-/
import Derived.Test.YtgnkmjeoaoongaaGreatDoorXc0
set_option maxRecDepth 100000
set_option maxHeartbeats 4000000
namespace Go.Proofs.YtgnkmjeoaoongaaGreatDoor
open Go.RowKit Go.Mer
def J35 (w:World) (p:List UInt8) (e:Ending) (w':World):Prop:= ∃a c,e= .returned (.tuple #[.slice a (Jc p).length c, .int .i64 0])/\Rd w' w'.heap.size a (u8s (Jc p))/\Kp No w w'/\ ∀g o,a=some ⟨g,o,none⟩->w.heap.size<=g
theorem Oq (w:World) (a:Option Addr) (cap:Nat) (p:List UInt8) (hR:Rd w w.heap.size a (u8s p)) (hl:p.length<=262144):
  Calls Tryz.prog 197 #[.slice a p.length cap] w (J35 w p):=by
 have hd:decide ((262144:Int)<(p.length:Int))=false:=by rw [decide_eq_false_iff_not];omega
 have hd2:decide (262144<p.length)=false:=by rw [decide_eq_false_iff_not];omega
 have hmod:(p.length:Int) % 4294967296=(p.length:Int):=Int.emod_eq_of_lt (by omega) (by omega);obtain ⟨n,Qr0⟩: ∃n,n=p.length:=⟨_,rfl⟩;have HF:=zz (λ(x:Nat) (hx:x<4294967296) W=>Qcf x hx W);have Q6y:=zz (And.intro Qr0 hl);have HR:=zz hR;rw [<-Qr0] at hd hd2 hmod⊢;obtain ⟨S0,hS0⟩: ∃S,S=crc (Jy n):=⟨_,rfl⟩;have O2:=zz (And.intro hS0 (show S0<4294967296 by rw [hS0];exact Q25 _));obtain ⟨S1,hS1⟩: ∃S,S=crc (X9 p):=⟨_,rfl⟩;have Cm:=zz (And.intro hS1 (show S1<4294967296 by rw [hS1];exact Q25 _));clear Qr0 hl hR hS0 hS1;go_enter Tryz.func197,Tryz.ntmps197
 go_wp2_with fail
 have hc:=HF.out n (by rw [Q6y.out.1];have:=Q6y.out.2;omega) w;with_reducible refine hc.mono ?_
 rintro e w1 ⟨a1,c1,rfl,o1,f1,k1⟩;simp only [Qs] at o1 f1⊢;have Qtk:=zz (And.intro o1 (And.intro f1 k1));have hs:=Q5z (n:=4) (l:=Jy n) (show Mer.Own w1 5 1 (.slice a1 4 c1) (Jy n).length (u8s (Jy n)) from o1) rfl (Mi n);simp only [<-show S0=_ from O2.out.1] at hs;clear o1 f1 k1 hc hmod;go_wp2_with fail
 with_reducible refine hs.mono ?_
 rintro e w2 ⟨rfl,rfl⟩;clear hs;go_wp2_with fail
 have hc:=HF.out S0 O2.out.2 w1;with_reducible refine hc.mono ?_
 rintro e w3 ⟨a3,c3,rfl,o3,_,k3⟩;simp only [Qs] at o3⊢;obtain ⟨a4,c4,w4,hrun,o4,f4,k4⟩:=Zq w w3 (.slice a1 4 c1) (Jy n) (Jy S0) (Qtk.out.1.keep k3 λ_ _ x=>x) Qtk.out.2.1 (Qtk.out.2.2.trans_same k3) a3 c3 o3.rd' (by rw [Qs,Qs];omega);have hh:Jy n++Jy S0=Er n:=by unfold Er;rw [O2.out.1]
 rw [hh,Qs,Z8] at hrun;rw [hh,Z8] at o4 f4;have Qsh:=zz hrun;have Qtm:=zz (And.intro o4 (And.intro f4 k4));clear hrun o4 f4 k4 o3 k3 hc hh;go_upto_region 5 with (at_builtin;refine wpList_append_run rfl rfl rfl rfl Qsh.out ?_)
 obtain ⟨a5,c5,w5,hrun,o5,f5,k5⟩:=Zq w w4 (.slice a4 8 c4) (Er n) p Qtm.out.1 Qtm.out.2.1 Qtm.out.2.2 a cap ((HR.out.keep Qtm.out.2.2 λ_ _ x=>x).mono Qtm.out.2.2.size (Nat.le_refl _)) (by rw [Z8];have:=Q6y.out.2;omega);have hb:Er n++p=X9 p:=by unfold X9;rw [Q6y.out.1]
 have hbl:(X9 p).length<=262152:=by rw [<-hb,List.length_append,Z8];have:=Q6y.out.2;omega
 rw [hb,<-Q6y.out.1] at hrun;rw [hb] at o5 f5;obtain ⟨nb,hnb⟩: ∃nb,nb=(X9 p).length:=⟨_,rfl⟩;rw [<-hnb] at hrun f5;have hs:=Q5z (n:=nb) (l:=X9 p) (show Mer.Own w5 5 1 (.slice a5 nb c5) (X9 p).length (u8s (X9 p)) by rw [hnb];exact o5) hnb (by omega);simp only [<-show S1=_ from Cm.out.1] at hs;have Qxy:=zz hrun;have Qsc:=zz (And.intro o5 (And.intro f5 (And.intro k5 (And.intro hnb hbl))));have HS:=zz hs;clear hrun o5 f5 k5 hb hbl hnb hs;go_upto_region 6 with (at_builtin;refine wpList_append_run rfl rfl rfl rfl Qxy.out ?_)
 go_wp2_with fail
 have hs:=HS.out;with_reducible refine hs.mono ?_
 rintro e w6 ⟨rfl,rfl⟩;clear hs;go_wp2_with fail
 have hc:=HF.out S1 Cm.out.2 w5;with_reducible refine hc.mono ?_
 rintro e w7 ⟨a7,c7,rfl,o7,_,k7⟩;simp only [Qs] at o7⊢;obtain ⟨a8,c8,w8,hrun,o8,f8,k8⟩:=Zq w w7 (.slice a5 nb c5) (X9 p) (Jy S1) (by have:=Qsc.out.1.keep k7 λ_ _ x=>x;rw [<-Qsc.out.2.2.2.1] at this;rw [<-Qsc.out.2.2.2.1];exact this) Qsc.out.2.1 (Qsc.out.2.2.1.trans_same k7) a7 c7 o7.rd' (by have:=Qsc.out.2.2.2.2;rw [Qs];omega);have hh:X9 p++Jy S1=Jc p:=by unfold Jc;rw [Cm.out.1]
 rw [hh,Qs] at hrun;rw [hh] at o8;have Q6z:=zz hrun;have Zv:=zz (show J35 w p (.returned (.tuple #[.slice a8 (Jc p).length c8, .int .i64 0])) w8 from ⟨a8,c8,rfl,o8.rd',k8,λg o ha=>f8 g (by rw [ha];rfl)⟩);clear hrun o8 f8 k8 o7 k7 hc hh;go_wp2_with (at_builtin;refine wpList_append_run rfl rfl rfl rfl Q6z.out ?_)
 exact bodyPost_ret (v:= .tuple #[.slice a8 (Jc p).length c8, .int .i64 0]) (by simp [results,Tryz.results197,go_sem]) rfl Zv.out
theorem Qms (s:Qu) (x:ByteArray):(L8 s x).1≠6:=by
 unfold L8 five;split
 ·show (9:Int)≠6;decide
 ·split
  ·split
   ·show (0:Int)≠6;decide
   ·unfold F8;split
    ·show (7:Int)≠6;decide
    ·show (0:Int)≠6;decide
  ·show (1:Int)≠6;decide
theorem Ap (P:ByteArray) (s:Qu) (st:J2):(J0 P s st).1≠6:=by
 unfold J0;split
 ·split
  ·show (0:Int)≠6;decide
  ·exact Qms _ _
 ·show (0:Int)≠6;decide
def Qax (w:World) (r x:Nat) (P:ByteArray) (F G:Nat->Prop) (q:(Nat×Int)×Qu×J2) (e:Ending) (w':World):Prop:=
 e= .returned (.tuple #[.int .i64 (q.1.1:Int), .int .i64 q.1.2])/\Y2 w r x P F G q.2.1 q.2.2 w'
theorem Y2.kp {w a:World} {d l:Nat} {P:ByteArray} {F G:Nat->Prop} {s':Qu} {st':J2} (h:Y2 w d l P F G s' st' a):Kp (Xp F G) w a:=by
 obtain ⟨_,_,_,_,_,h⟩:=h;exact h
theorem Q6m (w:World) (r x:Nat) (P:ByteArray) (s:Qu) (st:J2) (F G:Nat->Prop) (h:N9 w r x P s st F G) (hne:st.Qk=[]->st.Qn.length<=st.synced) (hsl:st.synced<=st.Qn.length) (hfew:st.Qn.length+1<1000000) (hz: ∀z∈st.Qk,z.1<1000000) (Q4v:st.Qk.length<=1000000) (hP:P.size<=50) (htr:Q9n P s st)
  (pa:Option Addr) (pc:Nat) (p:List UInt8) (hp: ∀W,Kp (Xp F G) w W->Rd W W.heap.size pa (u8s p)) (hpl:p.length<=1000000000):
  Calls Tryz.prog 122 #[.pointer (some ⟨x,0,none⟩), .slice pa p.length pc] w (Qax w r x P F G (Y8 P s st p)):=by
 obtain ⟨sv,ev,E,hC,hE,Bd,Ub⟩:=h.log;obtain ⟨c0,c1,c2,c3,_,c5,_⟩:=hC.cells;have hll:=Q3 hC.cell;obtain ⟨ea,ec,rfl,Qjl,_⟩:=hC.Qn.rd;obtain ⟨pl,Q8g⟩: ∃pl,pl=p.length:=⟨_,rfl⟩;rw [<-Q8g] at hpl⊢;obtain ⟨en,hen⟩: ∃en,en=E.length:=⟨_,rfl⟩;rw [<-hen] at c2;obtain ⟨k1,hk1⟩: ∃k1,k1=en+1:=⟨_,rfl⟩;have Qsr:st.Qn.length+1=k1:=by rw [hk1,hen,hE,List.length_map]
 have HW1:=zz (show wrap64 ((en:Int)+1)=(k1:Int) by
  rw [IntWalk.wrap64_in _ (by omega),hk1];push_cast
  rfl)
 have Qul:=c2 w zK;have Qum:=c3 w zK;have C6:=c5 w zK;have H:=zz h;have Qef:=zz (And.intro hne hsl);have E3:=zz (And.intro hfew (And.intro Q4v hz));have Q7g:=zz htr;have HP:=zz hp;have Dg:=zz Q8g;have HC:=zz hC;have HE:=zz hE;have Qj4:=zz hen;have Q03:=zz Qsr;have Qsa:=zz Bd;have J78:=zz hpl;clear h hne hsl hfew hz Q4v htr hp Q8g hC hE Bd Ub c0 c1 c2 c3 c5 hk1 Qsr hen Qjl;cases hd:st.dead with
 |true=>
  have HQ:=zz (show Y8 P s st p=((0,9),s,st) by unfold Y8;rw [if_pos hd]);rw [hd] at C6;clear hd;go_enter Tryz.func122,Tryz.ntmps122
  go_wp2_with fail
  go_ret2
  rw [HQ.out];exact ⟨rfl,Y2.here H.out zK⟩
 |false=>
  by_cases hlong:262134<pl
  ·have HQ:=zz (show Y8 P s st p=((0,5),s,st) by unfold Y8;rw [if_neg (by rw [hd];decide),if_pos (by rw [<-Dg.out];exact hlong)]);have e1:decide ((262134:Int)<(pl:Int))=true:=by rw [decide_eq_true_iff];omega
   rw [hd] at C6;clear hd;go_enter Tryz.func122,Tryz.ntmps122
   go_wp2_with fail
   go_ret2
   rw [HQ.out];exact ⟨rfl,Y2.here H.out zK⟩
  ·have e1:decide ((262134:Int)<(pl:Int))=false:=by rw [decide_eq_false_iff_not];omega
   have HD:=zz hd;rw [hd] at C6;have Uf:=zz (show p.length<=262134 by rw [<-Dg.out];omega);clear hd;rcases List.eq_nil_or_concat st.Qk with hsg|⟨S1,z,hsg⟩
   obtain ⟨sa,sc,rfl,_⟩:=HC.out.Qk.rd;have Q20:=zz hsg;rw [hsg] at Qum;have hl0:(([]:List (Nat×Nat)).map (·.1)).length=0:=rfl;rw [hl0] at Qum;clear hsg hl0;have hw1:=HW1.out;go_enter Tryz.func122,Tryz.ntmps122
   go_upto_region 15 with fail
   rw [hw1];clear hw1;obtain ⟨s1,hs1⟩: ∃s1,s1=s:=⟨_,rfl⟩;obtain ⟨st1,hst1⟩: ∃st1,st1=st:=⟨_,rfl⟩;have Cm:=zz (show Y2 w r x P F G s1 st1 w from by rw [hs1,hst1];exact Y2.here H.out zK);have Qej:=zz (show Zr P s st=(0,s1,st1) from by rw [hs1,hst1];exact Q5u Q20.out);have HST:=zz (show st1.Qn=st.Qn/\st1.Qk=st.Qk/\st1.dead=false from by rw [hst1];exact ⟨rfl,rfl,HD.out⟩);have Hw:=zz (Nd Q20.out);have Q7f:=zz (show Eh P k1=toN P st by unfold toN;rw [if_pos Hw.out,Q03.out]);have Ds:=zz (show k1<1000000 by rw [<-Q03.out];exact E3.out.1);clear hs1 hst1 Qul Qum C6;have hkx:=Cm.out.kp;have Qp9:=zz (HP.out w hkx);have Ni:k1<=1000000000000:=by rw [<-Q03.out];have:=E3.out.1;omega
   have Es:=Aa k1 Ni w;have Dt:=zz Es;have O1:=zz Ni;clear hkx Es Ni;go_wp2_with fail
   have hc:=Dt.out;with_reducible refine hc.mono ?_
   rintro e w5 ⟨na,nc,rfl,Qgp,hf5,hk5⟩;clear hc Dt
   obtain ⟨a6,c6,w6,hrun,Bh,Qql,hk6⟩:=Zq w w5 (.slice na (Ql k1).length nc) (Ql k1) p Qgp hf5 hk5 pa pc (Qp9.out.kp hk5) (by
    have:=(Zf k1 O1.out p).2;have:=Uf.out;omega)
   obtain ⟨M,hM⟩: ∃M,M=Ql k1++p:=⟨_,rfl⟩;rw [<-hM] at hrun Bh
   have hen:=Oq w6 a6 c6 M Bh.rd' (by
    rw [hM,List.length_append];have:=(Zf k1 O1.out p).2;have:=Uf.out;omega)
   rw [<-Dg.out] at hrun;have Qjd:=zz hrun;have Qnh:=zz hen;have Gb:=zz hk6;have HM:=zz (show Jc M=Xy k1 p by rw [hM];rfl);clear hM Qgp hf5 hk5 hrun Bh Qql hk6 hen;go_wp2_with (at_builtin;refine wpList_append_run rfl rfl rfl rfl Qjd.out ?_)
   have hc:=Qnh.out;with_reducible refine hc.mono ?_
   rintro e w8 ⟨fa,fc,rfl,Qgu,hk8,Qjm⟩;clear hc Qnh;obtain ⟨F1,G1,hX1,hF1,hG1,hK1⟩:=Cm.out;have Oe:Kp No w w8:=Gb.out.trans_same hk8;have Q0j:=hX1.no Oe;obtain ⟨Qsu,Qsm,Ex,Q80,Qpz,Q4k,_⟩:=Q0j.log;have Q07: ∀W,Kp F1 w8 W->Y1 W x r P Qsu Qsm (st1.Qk.map (·.1)) Ex (st1.synced+1) st1.dead:=λW hW=>Q80.keep hW (λk hk hf=>Q0j.sep k hf (Q4k k hk));have g0: ∀W,Kp F1 w8 W->W.cell? ⟨x,0,none⟩=some (.pointer (some ⟨r,0,none⟩)):=λW hW=>(Q07 W hW).cells.1 W zK;have g1: ∀W,Kp F1 w8 W->W.cell? ⟨x,1,none⟩=some (.string P):=λW hW=>(Q07 W hW).cells.2.1 W zK;have Q8c:=Q3 Q80.cell
   have Q4n:0<(u8s (Jc M)).length-> ∀k o,fa=some ⟨k,o,none⟩-> ¬F1 k:=λ_ k o ha hf=>by
    have h1:=Qjm k o ha;have h2:=hX1.disk.lt k hf;have h3:=Gb.out.size;omega
   obtain ⟨fl,hfl⟩: ∃fl,fl=(Jc M).length:=⟨_,rfl⟩;rw [<-hfl];have Qaz:=zz (show fl=(Xy k1 p).length by rw [hfl,HM.out])
   have hwr:=λW (hW:Kp No w8 W)=>Nr W r s1 F1 (Q0j.disk.Q5 hW) (Eh P k1) fa fc (Jc M) (Qgu.kp hW) (by
    have:=Zf k1 O1.out p;have h2:=Uf.out;rw [HM.out];omega) Q4n
   rw [<-hfl] at hwr;have Ff:=zz hwr;have Q04:=zz (λW=>Gs P (by omega) k1 Ds.out W);have Ky:=zz (And.intro Q0j (And.intro hF1 (And.intro hG1 hK1)));have Hx:=zz Oe;clear Qgu hk8 Qjm hX1 hF1 hG1 hK1 Oe Q0j Q80 Qpz Q4k Q07 Q4n hfl hwr;go_upto_region 16 with fail
   refine zD F1 [0,0,0,0,0,0,0,0,0,2,0,2,0] [0,1,2,3,4,5,6,7,8,10,9,11,12] ?_;repeat (first|refine zA ?_|refine zB ?_|refine zC ?_)
   refine Q4 rfl rfl (λn2=>?_);have hc:=Q04.out (w8.drewN n2);go_wp2_with fail
   with_reducible refine hc.mono ?_
   rintro e w9 ⟨rfl,hk9⟩;clear hc;go_wp2_with fail
   have Mo:Kp No w8 w9:=hk9.of_drewN;refine ⟨Kp.of_no Mo,?_⟩;refine Q4 rfl rfl (λn3=>?_);have hc:=Ff.out (w9.drewN n3) (Mo.drewN n3);obtain ⟨q,hqe⟩: ∃q,q=Lh s1 (Eh P k1) (Jc M):=⟨_,rfl⟩;have hqc:=Ch s1 (Eh P k1) (Jc M);rw [<-hqe] at hc hqc;have HQ:=zz (show q=Lh s1 (toN P st) (Xy k1 p) by rw [hqe,Q7f.out,HM.out]);have Q0s:=zz Mo;clear hqe hk9 Mo Ff Q04;go_wp2_with fail
   with_reducible refine hc.mono ?_
   rintro e w10 ⟨rfl,F10,Q4i,Bb,hK10⟩;clear hc;have Of:Kp F1 w9 w10:=hK10.of_drewN;have Q4m:N9 w10 r x P q.2 st1 F10 G1:=(Ky.out.1.no Q0s.out).Av Q4i Bb Of;obtain ⟨qc,hqe⟩: ∃qc,qc=q.1:=⟨_,rfl⟩;rw [<-hqe] at hqc⊢;have Q06:=zz hqe;have Qer:=zz Q4m;have Od:Kp F1 w8 w10:=(Kp.of_no Q0s.out).trans_same Of
   have Cn:=zz (show Qv F F10 w/\Qv G G1 w/\Kp (Xp F G) w w10 from by
    refine ⟨Ky.out.2.1.trans (λk hk=>(Bb k hk).imp id λh=>Nat.le_trans (Nat.le_trans Hx.out.size Q0s.out.size) h) Ky.out.2.2.2.size,Ky.out.2.2.1,?_⟩;refine (Ky.out.2.2.2.trans_no Hx.out).trans Od λi hi hf=>?_;rcases Ky.out.2.1 i hf with h1|h1
    ·exact .inl h1
    ·omega)
   have Q3s:=zz Od;clear Q4i Bb hK10 Of Q4m hqe Od;go_wp2_with fail
   refine ⟨Q3s.out,?_⟩;repeat (first|refine zA ?_|refine zB ?_|refine zC ?_)
   refine Q6 (λnq=>?_);clear g0 g1 Q8c;obtain ⟨Le,Nj⟩: ∃W,W=w10.drewN nq:=⟨_,rfl⟩;have Bg:Kp No w10 Le:=by rw [Nj];exact (Kp.refl No w10).drewN nq
   rw [<-Nj];have Hy:=zz (Qer.out.no Bg);have Ks:=zz (show Qv F F10 w/\Qv G G1 w/\Kp (Xp F G) w Le from ⟨Cn.out.1,Cn.out.2.1,Cn.out.2.2.trans_no Bg⟩);clear Nj Bg;by_cases hqz:qc=0
   rotate_left
   ·have e3:(qc==(0:Int))=false:=by rw [beq_eq_false_iff_ne];exact hqz
    have e4:(qc !=(0:Int))=true:=by rw [bne,e3];rfl
    have hfa:=Cz Le r x P q.2 st1 F10 G1 Hy.out HST.out.2.2 qc;have hap:=Lv (p:=p) HD.out Uf.out Qej.out;rw [Q03.out,<-HQ.out,if_neg (by rw [<-Q06.out];exact hqz),<-Q06.out] at hap;have M5:=zz hap;clear hap;go_wp2_with fail
    with_reducible refine hfa.mono ?_
    rintro e w12 ⟨rfl,hsx⟩;have Zv:=zz (show Y2 w r x P F G q.2 {st1 with dead:=qc !=6} w12 from Y2.trans ⟨F10,G1,Hy.out,Ks.out.1,Ks.out.2.1,Ks.out.2.2,hsx⟩);clear hfa hsx;go_wp2_with fail
    go_ret2
    rw [M5.out];exact ⟨rfl,Zv.out⟩
   rotate_right;obtain ⟨J2z,J09,E9,Ul,Qa2,_⟩:=Yk.start Hy.out.log;obtain ⟨Q09,Q0a,rfl,_,_⟩:=Ul.c.Qk.rd;obtain ⟨Nz,M0,rfl,_,_⟩:=Ul.c.Qn.rd;obtain ⟨Ei,Bf⟩: ∃Ei,Ei=E9.length:=⟨_,rfl⟩
   have Oc:Ei<=1000000:=by
    have h2:=congrArg List.length Qa2;rw [List.length_map,HST.out.1] at h2;have h3:=E3.out.1;omega
   have Xw:=zz Ul;have Qyw:=zz Qa2;have Lp:=zz Bf;have Ck:=zz Oc;clear Ul Qa2 Bf Oc;have Q4u:qc=0:=hqz;rw [Q4u] at Q06;clear hqc;subst Q4u;obtain ⟨Gw,Uy⟩: ∃Gw,Gw=(st1.Qk.map (·.1)).length:=⟨_,rfl⟩;have Qoh:Gw<=1000000:=by rw [Uy,List.length_map,HST.out.2.1];exact E3.out.2.1
   have I3:=Xw.out.c;rw [<-Uy] at I3;have Qgk:=Q3 I3.cell;have hos:=I3.Qk;obtain ⟨a',c',w12,hrn,ho',Kc,Mm⟩:=Qaj (T:=188) (E:=3) (sz:=1) (bytes:=8) Tryz.underlying188 Qaa (W:=Le) (v:= .slice Q09 Gw Q0a) (n:=Gw) (xs:=(st1.Qk.map (·.1)).flatMap Q2y) (by rw [Uy];rw [Uy] at hos;exact hos) (news:=Q2y k1) (Q5n k1) rfl (cs:= #[.int .i64 (k1:Int)]) rfl (by omega) (by omega);have Qpo:=I3.cells.2.2.2.1 Le zK;have hcW:=Kc.get I3.cell λe=>(Xw.out.c.Yv (by rw [Uy] at e;exact e)).1 rfl;have Qqt:w12.cell? ⟨x,3,none⟩=some (.slice Q09 Gw Q0a):=by rw [Q0 hcW];rfl
   have Qqk:=Qc hcW 3;have Qqx:=Q3 hcW;have hnew:=Xw.out.Qym (S':=st1.Qk.map (·.1)++[k1]) (W':=w12) (sv':= .slice a' (Gw+1) c') (by rw [<-Uy];exact Kc) (by rw [List.length_append,List.length_singleton,<-Uy,List.flatMap_append,List.flatMap_cons,List.flatMap_nil,List.append_nil];exact ho') (by rw [<-Uy];exact Mm);have Yz:=zz hnew;have Qpc:=zz hrn;clear hnew hrn ho' Kc Mm hcW I3 hos Uy;go_upto_region 20 with fail
   go_upto_region 21 with (at_builtin;refine wpList_append_run rfl rfl rfl rfl Qpc.out ?_)
   obtain ⟨Fe,Og⟩: ∃W,W=w12.setCell ⟨x,3,none⟩ (.slice a' (Gw+1) c'):=⟨_,rfl⟩;rw [<-Og] at Yz⊢;clear Og Qqt Qqk Qqx Qpo Qgk;have Kr:=Yz;obtain ⟨J30,Q4x⟩: ∃v:Value,v=(.slice a' (Gw+1) c'):=⟨_,rfl⟩;obtain ⟨st2,hst2⟩: ∃l,l=(st1.Qk.map (·.1)++[k1]):=⟨_,rfl⟩;have Hc:Vk st1 p=_:=Lu (show Jr st1=true by unfold Jr;rw [HST.out.2.1];exact Hw.out);have Q1x:=zz Hc;clear Hc;have Qpe:=zz (show (Vk st1 p).Qk.map (·.1)=st2 by rw [Q1x.out,hst2];simp [HST.out.1,Q03.out]);rw [<-Q4x,<-hst2] at Kr;clear Q4x hst2;rotate_left;rw [List.concat_eq_append] at hsg;have Q2c:=HC.out;rw [hsg,List.map_append,List.map_cons,List.map_nil] at Q2c;obtain ⟨sg,L5,sn,sc,rfl,hsn,Qlg,Q8h,G7⟩:=Q2c.Oi;obtain ⟨m2,hm2⟩: ∃m2,m2=(S1.map (·.1)).length:=⟨_,rfl⟩;rw [<-hm2] at hsn G7;have hms:m2<sn:=by omega
   have hw3:(sn:Int)-1=(m2:Int):=by omega
   have J92:((sn:Int)==(0:Int))=false:=by rw [beq_eq_false_iff_ne];omega
   have Q4z:=E3.out.2.2 z (by rw [hsg];simp);have htz:=Q7g.out S1 z hsg;have hc3:=Q2c.cells.2.2.2.1;obtain ⟨zn,hzn⟩: ∃zn,zn=z.1:=⟨_,rfl⟩;obtain ⟨zb,hzb⟩: ∃zb,zb=z.2:=⟨_,rfl⟩;have hsz:=Qia w r x P s st F G H.out S1 z hsg hP Q4z;rw [htz,<-hzb] at hsz;rw [<-hzn] at G7 Q4z;have Q20:=zz hsg;have Qzr:=zz hzn;have Qnm:=zz hzb;have J7j:=zz Q4z;have Ln:=zz hc3;have Qty:=zz G7;clear hsg Q2c hsn hm2 Q4z htz hzn hzb hc3 G7;by_cases hfr:1024<=zb
   have e4:decide ((1024:Int)<=(zb:Int))=true:=by rw [decide_eq_true_iff];omega
   have Hw:=zz (show Jr st=true by rw [E6 Q20.out,<-Qnm.out];exact decide_eq_true hfr);have Qek:=zz (Q1j (P:=P) (s:=s) Hw.out (by rw [Q20.out];simp));clear hfr;have hw1:=HW1.out;go_enter Tryz.func122,Tryz.ntmps122
   go_upto_region 7 with fail
   rw [hw1];clear hw1;go_wp2_with fail
   with_reducible refine hsz.mono ?_
   rintro e w3 ⟨rfl,hk3⟩;clear hsz;have hsy:=Q1v w3 r x P s st F G (H.out.no hk3) Qef.out.1 Qef.out.2 (Nat.le_of_lt (Nat.lt_trans (Nat.lt_succ_self _) E3.out.1)) E3.out.2.2 hP;obtain ⟨qs,Qod⟩: ∃qs,qs=J0 P s st:=⟨_,rfl⟩;obtain ⟨kn,hkn⟩:=Il P s st;have J1m:=Ap P s st;have hsame:=Kh P s st
   have Qwu:Uq P s st=(qs.1,qs.2.1,{qs.2.2 with dead:=decide (qs.1≠0)}):=by
    unfold Uq;rw [if_neg (by rw [HD.out];decide),Qod]
   rw [<-Qod] at hkn hsame J1m;unfold Q7k at hsy;rw [Qwu] at hsy;have M7:=zz (show Zr P s st=qs by rw [Qod];exact Qek.out);have M9:=zz hsame;have Dn:=zz hkn;have J3p:=zz J1m;have Zj:=zz hk3;clear Qod Qek hkn hsame hk3 J1m Qwu;go_wp2_with fail
   with_reducible refine hsy.mono ?_
   rintro e w4 ⟨rfl,hs4⟩;clear hsy;simp only at hs4⊢
   rw [Dn.out] at hs4⊢;have Q2j:Y2 w r x P F G qs.2.1 {qs.2.2 with dead:=decide ((kn:Int)≠0)} w4:=Y2.trans ⟨F,G,H.out.no Zj.out,Qv.refl _ _,Qv.refl _ _,Kp.of_no Zj.out,hs4⟩;clear hs4;by_cases hkz:kn=0
   rotate_left
   ·have e5:((kn:Int)==(0:Int))=false:=by rw [beq_eq_false_iff_ne];omega
    have e6:((kn:Int) !=(0:Int))=true:=by rw [bne,e5];rfl
    have hap:=Qf7 (p:=p) HD.out Uf.out (show (Zr P s st).1≠0 by rw [M7.out,Dn.out];omega);rw [M7.out,Dn.out] at hap
    have h6:((kn:Int) !=6)=true:=by
     have:=J3p.out;rw [Dn.out] at this;simp only [bne_iff_ne,ne_eq];exact this
    have h7:decide ((kn:Int)≠0)=true:=decide_eq_true (by omega);rw [h6] at hap;rw [h7] at Q2j;have Zv:=zz (show Qax w r x P F G (Y8 P s st p) (.returned (.tuple #[.int .i64 0, .int .i64 (kn:Int)])) w4 from by unfold Qax;rw [hap];exact ⟨rfl,Q2j⟩);clear hap Q2j;go_wp2_with fail
    go_ret2
    exact Zv.out
   rotate_right;subst hkz;obtain ⟨s1,hs1⟩: ∃s1,s1=qs.2.1:=⟨_,rfl⟩;obtain ⟨st1,hst1⟩: ∃st1,st1=qs.2.2:=⟨_,rfl⟩
   have hdd:({qs.2.2 with dead:=decide (((0:Nat):Int)≠0)}:J2)=st1:=by
    rw [hst1];have h1:qs.2.2.dead=false:=by rw [M9.out.2.2];exact HD.out
    have h0:decide (((0:Nat):Int)≠0)=false:=by decide
    rw [h0,<-h1]
   rw [hdd,<-hs1] at Q2j;have Cm:=zz Q2j
   have Qej:=zz (show Zr P s st=(0,s1,st1) from by
    rw [M7.out,hs1,hst1];have:=Dn.out;rw [show ((0:Nat):Int)=0 from rfl] at this;rw [<-this])
   have HST:=zz (show st1.Qn=st.Qn/\st1.Qk=st.Qk/\st1.dead=false from by rw [hst1];exact ⟨M9.out.1,M9.out.2.1,by rw [M9.out.2.2];exact HD.out⟩);have Q7f:=zz (show Eh P k1=toN P st by unfold toN;rw [if_pos Hw.out,Q03.out]);have Ds:=zz (show k1<1000000 by rw [<-Q03.out];exact E3.out.1);clear hs1 hst1 hdd Q2j Qul Qum C6 M7 M9 Dn J3p;go_upto_region 15 with fail
   have hkx:=Cm.out.kp;have Qp9:=zz (HP.out w4 hkx);have Ni:k1<=1000000000000:=by rw [<-Q03.out];have:=E3.out.1;omega
   have Es:=Aa k1 Ni w4;have Dt:=zz Es;have O1:=zz Ni;clear hkx Es Ni;go_wp2_with fail
   have hc:=Dt.out;with_reducible refine hc.mono ?_
   rintro e w5 ⟨na,nc,rfl,Qgp,hf5,hk5⟩;clear hc Dt
   obtain ⟨a6,c6,w6,hrun,Bh,Qql,hk6⟩:=Zq w4 w5 (.slice na (Ql k1).length nc) (Ql k1) p Qgp hf5 hk5 pa pc (Qp9.out.kp hk5) (by
    have:=(Zf k1 O1.out p).2;have:=Uf.out;omega)
   obtain ⟨M,hM⟩: ∃M,M=Ql k1++p:=⟨_,rfl⟩;rw [<-hM] at hrun Bh
   have hen:=Oq w6 a6 c6 M Bh.rd' (by
    rw [hM,List.length_append];have:=(Zf k1 O1.out p).2;have:=Uf.out;omega)
   rw [<-Dg.out] at hrun;have Qjd:=zz hrun;have Qnh:=zz hen;have Gb:=zz hk6;have HM:=zz (show Jc M=Xy k1 p by rw [hM];rfl);clear hM Qgp hf5 hk5 hrun Bh Qql hk6 hen;go_wp2_with (at_builtin;refine wpList_append_run rfl rfl rfl rfl Qjd.out ?_)
   have hc:=Qnh.out;with_reducible refine hc.mono ?_
   rintro e w8 ⟨fa,fc,rfl,Qgu,hk8,Qjm⟩;clear hc Qnh;obtain ⟨F1,G1,hX1,hF1,hG1,hK1⟩:=Cm.out;have Oe:Kp No w4 w8:=Gb.out.trans_same hk8;have Q0j:=hX1.no Oe;obtain ⟨Qsu,Qsm,Ex,Q80,Qpz,Q4k,_⟩:=Q0j.log;have Q07: ∀W,Kp F1 w8 W->Y1 W x r P Qsu Qsm (st1.Qk.map (·.1)) Ex (st1.synced+1) st1.dead:=λW hW=>Q80.keep hW (λk hk hf=>Q0j.sep k hf (Q4k k hk));have g0: ∀W,Kp F1 w8 W->W.cell? ⟨x,0,none⟩=some (.pointer (some ⟨r,0,none⟩)):=λW hW=>(Q07 W hW).cells.1 W zK;have g1: ∀W,Kp F1 w8 W->W.cell? ⟨x,1,none⟩=some (.string P):=λW hW=>(Q07 W hW).cells.2.1 W zK;have Q8c:=Q3 Q80.cell
   have Q4n:0<(u8s (Jc M)).length-> ∀k o,fa=some ⟨k,o,none⟩-> ¬F1 k:=λ_ k o ha hf=>by
    have h1:=Qjm k o ha;have h2:=hX1.disk.lt k hf;have h3:=Gb.out.size;omega
   obtain ⟨fl,hfl⟩: ∃fl,fl=(Jc M).length:=⟨_,rfl⟩;rw [<-hfl];have Qaz:=zz (show fl=(Xy k1 p).length by rw [hfl,HM.out])
   have hwr:=λW (hW:Kp No w8 W)=>Nr W r s1 F1 (Q0j.disk.Q5 hW) (Eh P k1) fa fc (Jc M) (Qgu.kp hW) (by
    have:=Zf k1 O1.out p;have h2:=Uf.out;rw [HM.out];omega) Q4n
   rw [<-hfl] at hwr;have Ff:=zz hwr;have Q04:=zz (λW=>Gs P (by omega) k1 Ds.out W);have Ky:=zz (And.intro Q0j (And.intro hF1 (And.intro hG1 hK1)));have Hx:=zz Oe;clear Qgu hk8 Qjm hX1 hF1 hG1 hK1 Oe Q0j Q80 Qpz Q4k Q07 Q4n hfl hwr;go_upto_region 16 with fail
   refine zD F1 [0,0,0,0,0,0,0,0,0,2,0,2,0] [0,1,2,3,4,5,6,7,8,10,9,11,12] ?_;repeat (first|refine zA ?_|refine zB ?_|refine zC ?_)
   refine Q4 rfl rfl (λn2=>?_);have hc:=Q04.out (w8.drewN n2);go_wp2_with fail
   with_reducible refine hc.mono ?_
   rintro e w9 ⟨rfl,hk9⟩;clear hc;go_wp2_with fail
   have Mo:Kp No w8 w9:=hk9.of_drewN;refine ⟨Kp.of_no Mo,?_⟩;refine Q4 rfl rfl (λn3=>?_);have hc:=Ff.out (w9.drewN n3) (Mo.drewN n3);obtain ⟨q,hqe⟩: ∃q,q=Lh s1 (Eh P k1) (Jc M):=⟨_,rfl⟩;have hqc:=Ch s1 (Eh P k1) (Jc M);rw [<-hqe] at hc hqc;have HQ:=zz (show q=Lh s1 (toN P st) (Xy k1 p) by rw [hqe,Q7f.out,HM.out]);have Q0s:=zz Mo;clear hqe hk9 Mo Ff Q04;go_wp2_with fail
   with_reducible refine hc.mono ?_
   rintro e w10 ⟨rfl,F10,Q4i,Bb,hK10⟩;clear hc;have Of:Kp F1 w9 w10:=hK10.of_drewN;have Q4m:N9 w10 r x P q.2 st1 F10 G1:=(Ky.out.1.no Q0s.out).Av Q4i Bb Of;obtain ⟨qc,hqe⟩: ∃qc,qc=q.1:=⟨_,rfl⟩;rw [<-hqe] at hqc⊢;have Q06:=zz hqe;have Qer:=zz Q4m;have Od:Kp F1 w8 w10:=(Kp.of_no Q0s.out).trans_same Of
   have Cn:=zz (show Qv F F10 w/\Qv G G1 w/\Kp (Xp F G) w w10 from by
    refine ⟨Ky.out.2.1.trans (λk hk=>(Bb k hk).imp id λh=>Nat.le_trans (Nat.le_trans Hx.out.size Q0s.out.size) h) Ky.out.2.2.2.size,Ky.out.2.2.1,?_⟩;refine (Ky.out.2.2.2.trans_no Hx.out).trans Od λi hi hf=>?_;rcases Ky.out.2.1 i hf with h1|h1
    ·exact .inl h1
    ·omega)
   have Q3s:=zz Od;clear Q4i Bb hK10 Of Q4m hqe Od;go_wp2_with fail
   refine ⟨Q3s.out,?_⟩;repeat (first|refine zA ?_|refine zB ?_|refine zC ?_)
   refine Q6 (λnq=>?_);clear g0 g1 Q8c;obtain ⟨Le,Nj⟩: ∃W,W=w10.drewN nq:=⟨_,rfl⟩;have Bg:Kp No w10 Le:=by rw [Nj];exact (Kp.refl No w10).drewN nq
   rw [<-Nj];have Hy:=zz (Qer.out.no Bg);have Ks:=zz (show Qv F F10 w/\Qv G G1 w/\Kp (Xp F G) w Le from ⟨Cn.out.1,Cn.out.2.1,Cn.out.2.2.trans_no Bg⟩);clear Nj Bg;by_cases hqz:qc=0
   rotate_left
   ·have e3:(qc==(0:Int))=false:=by rw [beq_eq_false_iff_ne];exact hqz
    have e4:(qc !=(0:Int))=true:=by rw [bne,e3];rfl
    have hfa:=Cz Le r x P q.2 st1 F10 G1 Hy.out HST.out.2.2 qc;have hap:=Lv (p:=p) HD.out Uf.out Qej.out;rw [Q03.out,<-HQ.out,if_neg (by rw [<-Q06.out];exact hqz),<-Q06.out] at hap;have M5:=zz hap;clear hap;go_wp2_with fail
    with_reducible refine hfa.mono ?_
    rintro e w12 ⟨rfl,hsx⟩;have Zv:=zz (show Y2 w r x P F G q.2 {st1 with dead:=qc !=6} w12 from Y2.trans ⟨F10,G1,Hy.out,Ks.out.1,Ks.out.2.1,Ks.out.2.2,hsx⟩);clear hfa hsx;go_wp2_with fail
    go_ret2
    rw [M5.out];exact ⟨rfl,Zv.out⟩
   rotate_right;obtain ⟨J2z,J09,E9,Ul,Qa2,_⟩:=Yk.start Hy.out.log;obtain ⟨Q09,Q0a,rfl,_,_⟩:=Ul.c.Qk.rd;obtain ⟨Nz,M0,rfl,_,_⟩:=Ul.c.Qn.rd;obtain ⟨Ei,Bf⟩: ∃Ei,Ei=E9.length:=⟨_,rfl⟩
   have Oc:Ei<=1000000:=by
    have h2:=congrArg List.length Qa2;rw [List.length_map,HST.out.1] at h2;have h3:=E3.out.1;omega
   have Xw:=zz Ul;have Qyw:=zz Qa2;have Lp:=zz Bf;have Ck:=zz Oc;clear Ul Qa2 Bf Oc;have Q4u:qc=0:=hqz;rw [Q4u] at Q06;clear hqc;subst Q4u;obtain ⟨Gw,Uy⟩: ∃Gw,Gw=(st1.Qk.map (·.1)).length:=⟨_,rfl⟩;have Qoh:Gw<=1000000:=by rw [Uy,List.length_map,HST.out.2.1];exact E3.out.2.1
   have I3:=Xw.out.c;rw [<-Uy] at I3;have Qgk:=Q3 I3.cell;have hos:=I3.Qk;obtain ⟨a',c',w12,hrn,ho',Kc,Mm⟩:=Qaj (T:=188) (E:=3) (sz:=1) (bytes:=8) Tryz.underlying188 Qaa (W:=Le) (v:= .slice Q09 Gw Q0a) (n:=Gw) (xs:=(st1.Qk.map (·.1)).flatMap Q2y) (by rw [Uy];rw [Uy] at hos;exact hos) (news:=Q2y k1) (Q5n k1) rfl (cs:= #[.int .i64 (k1:Int)]) rfl (by omega) (by omega);have Qpo:=I3.cells.2.2.2.1 Le zK;have hcW:=Kc.get I3.cell λe=>(Xw.out.c.Yv (by rw [Uy] at e;exact e)).1 rfl;have Qqt:w12.cell? ⟨x,3,none⟩=some (.slice Q09 Gw Q0a):=by rw [Q0 hcW];rfl
   have Qqk:=Qc hcW 3;have Qqx:=Q3 hcW;have hnew:=Xw.out.Qym (S':=st1.Qk.map (·.1)++[k1]) (W':=w12) (sv':= .slice a' (Gw+1) c') (by rw [<-Uy];exact Kc) (by rw [List.length_append,List.length_singleton,<-Uy,List.flatMap_append,List.flatMap_cons,List.flatMap_nil,List.append_nil];exact ho') (by rw [<-Uy];exact Mm);have Yz:=zz hnew;have Qpc:=zz hrn;clear hnew hrn ho' Kc Mm hcW I3 hos Uy;go_upto_region 20 with fail
   go_upto_region 21 with (at_builtin;refine wpList_append_run rfl rfl rfl rfl Qpc.out ?_)
   obtain ⟨Fe,Og⟩: ∃W,W=w12.setCell ⟨x,3,none⟩ (.slice a' (Gw+1) c'):=⟨_,rfl⟩;rw [<-Og] at Yz⊢;clear Og Qqt Qqk Qqx Qpo Qgk;have Kr:=Yz;obtain ⟨J30,Q4x⟩: ∃v:Value,v=(.slice a' (Gw+1) c'):=⟨_,rfl⟩;obtain ⟨st2,hst2⟩: ∃l,l=(st1.Qk.map (·.1)++[k1]):=⟨_,rfl⟩;have Hc:Vk st1 p=_:=Lu (show Jr st1=true by unfold Jr;rw [HST.out.2.1];exact Hw.out);have Q1x:=zz Hc;clear Hc;have Qpe:=zz (show (Vk st1 p).Qk.map (·.1)=st2 by rw [Q1x.out,hst2];simp [HST.out.1,Q03.out]);rw [<-Q4x,<-hst2] at Kr;clear Q4x hst2;rotate_left;have e4:decide ((1024:Int)<=(zb:Int))=false:=by rw [decide_eq_false_iff_not];omega
   have Hw:=zz (show Jr st=false by rw [E6 Q20.out,<-Qnm.out];exact decide_eq_false hfr);clear hfr;have hw1:=HW1.out;go_enter Tryz.func122,Tryz.ntmps122
   go_upto_region 7 with fail
   rw [hw1];clear hw1;go_wp2_with fail
   with_reducible refine hsz.mono ?_
   rintro e w3 ⟨rfl,hk3⟩;clear hsz;have f3: ∀W,Kp No w3 W->W.cell? ⟨x,3,none⟩=some (.slice (some ⟨sg,L5,none⟩) sn sc):=λW hW=>Ln.out W (hk3.trans_same hW);have fz: ∀W,Kp No w3 W->W.cell? ⟨sg,L5+m2,none⟩=some (.int .i64 (zn:Int)):=λW hW=>Qty.out W (hk3.trans_same hW);have hl3:=hk3.lt hll;have J1w:=hk3.lt Q8h;go_upto_region 14 with fail
   refine zD No [0,0,0,0,0,0,0,0,1,0,0,0,0] [0,1,2,3,4,5,6,7,8,9,10,11,12] ?_;repeat (first|refine zA ?_|refine zB ?_|refine zC ?_)
   refine Q6 (λnq=>?_);go_upto_region 15 with fail
   obtain ⟨w4,hw4⟩: ∃W,W=w3.drewN nq:=⟨_,rfl⟩;have hk4:Kp No w w4:=by rw [hw4];exact hk3.drewN nq
   rw [<-hw4];clear hw4 f3 fz hl3 J1w hk3;obtain ⟨s1,hs1⟩: ∃s1,s1=s:=⟨_,rfl⟩;obtain ⟨st1,hst1⟩: ∃st1,st1=st:=⟨_,rfl⟩;have Cm:=zz (show Y2 w r x P F G s1 st1 w4 from by rw [hs1,hst1];exact Y2.here H.out hk4);have Qej:=zz (show Zr P s st=(0,s1,st1) from by rw [hs1,hst1];exact Qak Hw.out);have HST:=zz (show st1.Qn=st.Qn/\st1.Qk=st.Qk/\st1.dead=false from by rw [hst1];exact ⟨rfl,rfl,HD.out⟩);have Q7f:=zz (show Eh P zn=toN P st by unfold toN;rw [if_neg (by rw [Hw.out];decide),Oj Q20.out,Qzr.out]);have Ds:=zz J7j.out;clear hs1 hst1 Qul Qum C6 hk4;have hkx:=Cm.out.kp;have Qp9:=zz (HP.out w4 hkx);have Ni:k1<=1000000000000:=by rw [<-Q03.out];have:=E3.out.1;omega
   have Es:=Aa k1 Ni w4;have Dt:=zz Es;have O1:=zz Ni;clear hkx Es Ni;go_wp2_with fail
   have hc:=Dt.out;with_reducible refine hc.mono ?_
   rintro e w5 ⟨na,nc,rfl,Qgp,hf5,hk5⟩;clear hc Dt
   obtain ⟨a6,c6,w6,hrun,Bh,Qql,hk6⟩:=Zq w4 w5 (.slice na (Ql k1).length nc) (Ql k1) p Qgp hf5 hk5 pa pc (Qp9.out.kp hk5) (by
    have:=(Zf k1 O1.out p).2;have:=Uf.out;omega)
   obtain ⟨M,hM⟩: ∃M,M=Ql k1++p:=⟨_,rfl⟩;rw [<-hM] at hrun Bh
   have hen:=Oq w6 a6 c6 M Bh.rd' (by
    rw [hM,List.length_append];have:=(Zf k1 O1.out p).2;have:=Uf.out;omega)
   rw [<-Dg.out] at hrun;have Qjd:=zz hrun;have Qnh:=zz hen;have Gb:=zz hk6;have HM:=zz (show Jc M=Xy k1 p by rw [hM];rfl);clear hM Qgp hf5 hk5 hrun Bh Qql hk6 hen;go_wp2_with (at_builtin;refine wpList_append_run rfl rfl rfl rfl Qjd.out ?_)
   have hc:=Qnh.out;with_reducible refine hc.mono ?_
   rintro e w8 ⟨fa,fc,rfl,Qgu,hk8,Qjm⟩;clear hc Qnh;obtain ⟨F1,G1,hX1,hF1,hG1,hK1⟩:=Cm.out;have Oe:Kp No w4 w8:=Gb.out.trans_same hk8;have Q0j:=hX1.no Oe;obtain ⟨Qsu,Qsm,Ex,Q80,Qpz,Q4k,_⟩:=Q0j.log;have Q07: ∀W,Kp F1 w8 W->Y1 W x r P Qsu Qsm (st1.Qk.map (·.1)) Ex (st1.synced+1) st1.dead:=λW hW=>Q80.keep hW (λk hk hf=>Q0j.sep k hf (Q4k k hk));have g0: ∀W,Kp F1 w8 W->W.cell? ⟨x,0,none⟩=some (.pointer (some ⟨r,0,none⟩)):=λW hW=>(Q07 W hW).cells.1 W zK;have g1: ∀W,Kp F1 w8 W->W.cell? ⟨x,1,none⟩=some (.string P):=λW hW=>(Q07 W hW).cells.2.1 W zK;have Q8c:=Q3 Q80.cell
   have Q4n:0<(u8s (Jc M)).length-> ∀k o,fa=some ⟨k,o,none⟩-> ¬F1 k:=λ_ k o ha hf=>by
    have h1:=Qjm k o ha;have h2:=hX1.disk.lt k hf;have h3:=Gb.out.size;omega
   obtain ⟨fl,hfl⟩: ∃fl,fl=(Jc M).length:=⟨_,rfl⟩;rw [<-hfl];have Qaz:=zz (show fl=(Xy k1 p).length by rw [hfl,HM.out])
   have hwr:=λW (hW:Kp No w8 W)=>Nr W r s1 F1 (Q0j.disk.Q5 hW) (Eh P zn) fa fc (Jc M) (Qgu.kp hW) (by
    have:=Zf k1 O1.out p;have h2:=Uf.out;rw [HM.out];omega) Q4n
   rw [<-hfl] at hwr;have Ff:=zz hwr;have Q04:=zz (λW=>Gs P (by omega) zn Ds.out W);have Ky:=zz (And.intro Q0j (And.intro hF1 (And.intro hG1 hK1)));have Hx:=zz Oe;clear Qgu hk8 Qjm hX1 hF1 hG1 hK1 Oe Q0j Q80 Qpz Q4k Q07 Q4n hfl hwr;go_upto_region 16 with fail
   refine zD F1 [0,0,0,0,0,0,0,0,0,2,0,2,0] [0,1,2,3,4,5,6,7,8,10,9,11,12] ?_;repeat (first|refine zA ?_|refine zB ?_|refine zC ?_)
   refine Q4 rfl rfl (λn2=>?_);have hc:=Q04.out (w8.drewN n2);go_wp2_with fail
   with_reducible refine hc.mono ?_
   rintro e w9 ⟨rfl,hk9⟩;clear hc;go_wp2_with fail
   have Mo:Kp No w8 w9:=hk9.of_drewN;refine ⟨Kp.of_no Mo,?_⟩;refine Q4 rfl rfl (λn3=>?_);have hc:=Ff.out (w9.drewN n3) (Mo.drewN n3);obtain ⟨q,hqe⟩: ∃q,q=Lh s1 (Eh P zn) (Jc M):=⟨_,rfl⟩;have hqc:=Ch s1 (Eh P zn) (Jc M);rw [<-hqe] at hc hqc;have HQ:=zz (show q=Lh s1 (toN P st) (Xy k1 p) by rw [hqe,Q7f.out,HM.out]);have Q0s:=zz Mo;clear hqe hk9 Mo Ff Q04;go_wp2_with fail
   with_reducible refine hc.mono ?_
   rintro e w10 ⟨rfl,F10,Q4i,Bb,hK10⟩;clear hc;have Of:Kp F1 w9 w10:=hK10.of_drewN;have Q4m:N9 w10 r x P q.2 st1 F10 G1:=(Ky.out.1.no Q0s.out).Av Q4i Bb Of;obtain ⟨qc,hqe⟩: ∃qc,qc=q.1:=⟨_,rfl⟩;rw [<-hqe] at hqc⊢;have Q06:=zz hqe;have Qer:=zz Q4m;have Od:Kp F1 w8 w10:=(Kp.of_no Q0s.out).trans_same Of
   have Cn:=zz (show Qv F F10 w/\Qv G G1 w/\Kp (Xp F G) w w10 from by
    refine ⟨Ky.out.2.1.trans (λk hk=>(Bb k hk).imp id λh=>Nat.le_trans (Nat.le_trans Hx.out.size Q0s.out.size) h) Ky.out.2.2.2.size,Ky.out.2.2.1,?_⟩;refine (Ky.out.2.2.2.trans_no Hx.out).trans Od λi hi hf=>?_;rcases Ky.out.2.1 i hf with h1|h1
    ·exact .inl h1
    ·omega)
   have Q3s:=zz Od;clear Q4i Bb hK10 Of Q4m hqe Od;go_wp2_with fail
   refine ⟨Q3s.out,?_⟩;repeat (first|refine zA ?_|refine zB ?_|refine zC ?_)
   refine Q6 (λnq=>?_);clear g0 g1 Q8c;obtain ⟨Le,Nj⟩: ∃W,W=w10.drewN nq:=⟨_,rfl⟩;have Bg:Kp No w10 Le:=by rw [Nj];exact (Kp.refl No w10).drewN nq
   rw [<-Nj];have Hy:=zz (Qer.out.no Bg);have Ks:=zz (show Qv F F10 w/\Qv G G1 w/\Kp (Xp F G) w Le from ⟨Cn.out.1,Cn.out.2.1,Cn.out.2.2.trans_no Bg⟩);clear Nj Bg;by_cases hqz:qc=0
   rotate_left
   ·have e3:(qc==(0:Int))=false:=by rw [beq_eq_false_iff_ne];exact hqz
    have e4:(qc !=(0:Int))=true:=by rw [bne,e3];rfl
    have hfa:=Cz Le r x P q.2 st1 F10 G1 Hy.out HST.out.2.2 qc;have hap:=Lv (p:=p) HD.out Uf.out Qej.out;rw [Q03.out,<-HQ.out,if_neg (by rw [<-Q06.out];exact hqz),<-Q06.out] at hap;have M5:=zz hap;clear hap;go_wp2_with fail
    with_reducible refine hfa.mono ?_
    rintro e w12 ⟨rfl,hsx⟩;have Zv:=zz (show Y2 w r x P F G q.2 {st1 with dead:=qc !=6} w12 from Y2.trans ⟨F10,G1,Hy.out,Ks.out.1,Ks.out.2.1,Ks.out.2.2,hsx⟩);clear hfa hsx;go_wp2_with fail
    go_ret2
    rw [M5.out];exact ⟨rfl,Zv.out⟩
   rotate_right;obtain ⟨J2z,J09,E9,Ul,Qa2,_⟩:=Yk.start Hy.out.log;obtain ⟨Q09,Q0a,rfl,_,_⟩:=Ul.c.Qk.rd;obtain ⟨Nz,M0,rfl,_,_⟩:=Ul.c.Qn.rd;obtain ⟨Ei,Bf⟩: ∃Ei,Ei=E9.length:=⟨_,rfl⟩
   have Oc:Ei<=1000000:=by
    have h2:=congrArg List.length Qa2;rw [List.length_map,HST.out.1] at h2;have h3:=E3.out.1;omega
   have Xw:=zz Ul;have Qyw:=zz Qa2;have Lp:=zz Bf;have Ck:=zz Oc;clear Ul Qa2 Bf Oc;have Q4u:qc=0:=hqz;rw [Q4u] at Q06;clear hqc;subst Q4u;obtain ⟨Fe,Og⟩: ∃W,W=Le:=⟨_,rfl⟩
   have Kr:Hid (Yk Le Fe x r P (.slice Q09 (st1.Qk.map (·.1)).length Q0a) (.slice Nz E9.length M0) (st1.Qk.map (·.1)) E9 (st1.synced+1) st1.dead G1):=by
    rw [Og];exact Xw
   rw [<-Og];clear Og;obtain ⟨J30,Q4x⟩: ∃v:Value,v=(.slice Q09 (st1.Qk.map (·.1)).length Q0a):=⟨_,rfl⟩;obtain ⟨st2,hst2⟩: ∃l,l=(st1.Qk.map (·.1)):=⟨_,rfl⟩;have Hc:Vk st1 p=_:=Q22 (show Jr st1=false by unfold Jr;rw [HST.out.2.1];exact Hw.out) (HST.out.2.1.trans Q20.out);have Q1x:=zz Hc;clear Hc;have Qpe:=zz (show (Vk st1 p).Qk.map (·.1)=st2 by rw [Q1x.out,hst2];simp [HST.out.2.1,Q20.out]);rw [<-Q4x,<-hst2] at Kr;clear Q4x hst2
   all_goals
    have Qgd:Kp G1 Le Fe:=Kr.out.kp;have Q0i:=Kr.out.c;have Qa8:=Q3 Q0i.cell
    have Qoj:Kp (Xp F G) w Fe:=Ks.out.2.2.trans (T:=G1) Qgd λi hi hg=>by
     rcases Ks.out.2.1 i hg with h1|h1
     ·exact .inr h1
     ·omega
    have Qkx: ∀k,(Value.slice Nz Ei M0).ownBlock=some k->k≠x/\k<Fe.heap.size:=λk hk=>by
     rw [Lp.out] at hk;exact ⟨(Q0i.Xs hk).1,Q0i.Qn.lt k hk⟩
    have e2: ∀W,Kp (λk=>(Value.slice Nz Ei M0).ownBlock=some k) Fe W->W.cell? ⟨x,2,none⟩=some (.slice Nz Ei M0):=λW hW=>by
     rw [hW.cell (p:=⟨x,2,none⟩) Qa8 (λh=>(Qkx x h).1 rfl),Q0 Q0i.cell,Lp.out];rfl
    have J4n: ∀W,Kp (λk=>(Value.slice Nz Ei M0).ownBlock=some k) Fe W->W.frozen? ⟨x,2,none⟩=false:=λW hW=>by
     rw [hW.frozen (p:=⟨x,2,none⟩) Qa8 (λh=>(Qkx x h).1 rfl)];exact Qc Q0i.cell 2
    have Qu6:=zz Qoj;have J6o:=zz Qkx;clear Qoj Qkx Q0i Qgd;go_upto_region 21 with fail
    refine J4 (Kp (λk=>(Value.slice Nz Ei M0).ownBlock=some k) Fe) [0,0,0,0,0,2,0,2,2,2,0,0,2] [0,1,2,3,4,6,5,7,8,9,10,11] 12 (by kernel_rfl) (by kernel_rfl) (λ_ n h=>h.drewN n) zK ?_;repeat (first|refine zA ?_|refine zB ?_|refine zC ?_)
    refine Q4 rfl rfl (λn5=>?_);go_wp2_with fail
    obtain ⟨Qau,I5⟩: ∃W,W=(Fe.drewN n5).alloc (.cells #[] 5):=⟨_,rfl⟩;have k15:Kp No Fe Qau:=by rw [I5];exact (zK.drewN n5).alloc _
    have J62:Own Qau 5 1 (.slice (some ⟨Fe.heap.size,0,none⟩) 0 0) 0 []:=by rw [I5];exact Own.made (Fe.drewN n5) 5 1 #[] 0 0 (Nat.le_refl _) (by simp [maxLen]) (by simp) rfl
    rw [<-I5];clear I5;refine ⟨Kp.of_no k15,?_⟩;refine Q4 rfl rfl (λn7=>?_);obtain ⟨ca,cc,Qd9,hrc,hoc,hkc,hfc⟩:=Nb (Qau.drewN n7) Fe.heap.size (J62.drewN n7) p pa pc (HP.out _ (Qu6.out.trans_no (k15.drewN n7))) (by have:=Uf.out;omega);rw [<-Dg.out] at hrc;have k17:Kp No Fe Qd9:=(k15.drewN n7).trans hkc λi hi (e:i=Fe.heap.size)=>by omega
    have Qvk: ∀g,(Value.slice ca p.length cc).ownBlock=some g->Fe.heap.size<=g:=λg hg=>by
     rcases hfc g hg with h1|h1
     ·omega
     ·have:=k15.size;have h2:Qau.heap.size<=g:=h1;omega
    have Qb3:=zz hrc;have Qxu:=zz hoc;have Qyy:=zz Qvk;have Qec:=zz k17;clear hrc hoc hkc hfc Qvk k15 J62 k17;refine wpList_append_run rfl rfl rfl rfl Qb3.out (wpList_nil ⟨rfl,Kp.of_no Qec.out,?_⟩);refine Q4 rfl rfl (λn8=>?_);go_wp2_with fail
    obtain ⟨Q3o,I6⟩: ∃W,W=(Qd9.drewN n8).alloc (.cells #[.slice ca pl cc] 42):=⟨_,rfl⟩;have Qfy:Q3o.heap[Qd9.heap.size]?=some (.cells #[.slice ca pl cc] 42 (0,0)):=by rw [I6];exact heap_alloc_new (Qd9.drewN n8) _
    have k18:Kp No Qd9 Q3o:=by rw [I6];exact (zK.drewN n8).alloc _
    rw [<-I6];clear I6;have Qad:Kp No Fe Q3o:=Qec.out.trans_same k18;refine ⟨Kp.of_no Qad,?_⟩;refine Q4 rfl rfl (λn9=>?_);have hlr:Yk Le (Q3o.drewN n9) x r P J30 (.slice Nz Ei M0) st2 E9 (st1.synced+1) st1.dead G1:=by rw [Lp.out];exact Kr.out.no (Qad.drewN n9)
    have hoe:Own (Q3o.drewN n9) 42 1 (.slice Nz Ei M0) Ei (E9.flatMap Mw):=by have:=hlr.c.Qn;rw [<-Lp.out] at this;exact this
    obtain ⟨a9,c9,Qxk,hrn,ho',Kc,Mm⟩:=Ey (T:=187) (E:=42) (sz:=1) (bytes:=24) Tryz.underlying187 Q50 hoe (news:=Mw ⟨ca,cc,p⟩) (Q63 _) rfl (g:=Qd9.heap.size) (cs:= #[.slice ca pl cc]) Qfy (by rw [Dg.out];rfl) (by have:=Ck.out;omega) (by have:=Ck.out;omega);have kS:Kp (λk=>(Value.slice Nz Ei M0).ownBlock=some k) Fe Qxk:=(Kp.of_no (Qad.drewN n9)).trans_same Kc;have Qzg:=zz hrn;have Q7a:=zz ho';have Q1z:=zz Kc;have Qj2:=zz Mm;have Q79:=zz hlr;have Qoz:=zz (k18.drewN n9);clear hrn ho' Kc Mm hlr hoe Qfy k18 Qad;refine wpList_append_run rfl rfl rfl rfl Qzg.out (wpList_nil ⟨rfl,kS,?_⟩);repeat (first|refine zA ?_|refine zB ?_|refine zC ?_)
    refine Yc (λn11=>?_);refine Q4 rfl rfl (λn12=>?_);obtain ⟨Q91,Bp⟩: ∃W,W=(Qxk.drewN n11).drewN n12:=⟨_,rfl⟩;have k20:Kp (λk=>(Value.slice Nz Ei M0).ownBlock=some k) (Q3o.drewN n9) Q91:=by rw [Bp];exact (Q1z.out.drewN n11).drewN n12
    have Q2q:Kp (λk=>(Value.slice Nz Ei M0).ownBlock=some k) Fe Q91:=by rw [Bp];exact (kS.drewN n11).drewN n12
    have Qgo:Own Q91 42 1 (.slice a9 (Ei+1) c9) (Ei+1) (E9.flatMap Mw++Mw ⟨ca,cc,p⟩):=by rw [Bp];exact Q7a.out
    rw [<-Bp];have Qqb:=e2 Q91 Q2q;have Qqj:=J4n Q91 Q2q;have Qqs:=Q2q.lt Qa8
    have hpc:p.length<=cc:=by
     obtain ⟨_,_,cap,hv,h1',_⟩:=Qxu.out;injection hv with _ _ e;all_goals omega
    have Qgq:O0 (Q3o.drewN n9) ⟨ca,cc,p⟩:=⟨Qxu.out.keep Qoz.out λ_ _ x=>x,hpc,by show p.length<=1000000000;have:=Uf.out;omega⟩
    have hnew:=Q79.out.J08 (r:=⟨ca,cc,p⟩) (W':=Q91) (ev':= .slice a9 (Ei+1) c9) Qgq
     (λg hg=> .inr (by
      have h2:=Qyy.out g hg;have h3:=Kr.out.kp.size;omega)) k20
     (by rw [List.length_append,List.length_singleton,<-Lp.out,List.flatMap_append,List.flatMap_cons,List.flatMap_nil,List.append_nil];exact Qgo) Qj2.out
    have Qti:=zz hnew;clear hnew Bp k20 Q2q Qgo Qgq hpc;go_wp2_with fail
    intro nr;obtain ⟨Q3p,Q8j⟩: ∃W,W=(Q91.setCell ⟨x,2,none⟩ (.slice a9 (Ei+1) c9)).drewN nr:=⟨_,rfl⟩;have Qju:=zz (Qti.out.no (show Kp No _ Q3p from by rw [Q8j];exact (Kp.refl No _).drewN nr));rw [<-Q8j];clear Q8j Qqb Qqj Qqs kS e2 J4n;have hap:=Lv (p:=p) HD.out Uf.out Qej.out;rw [Q03.out,<-HQ.out,if_pos Q06.out.symm] at hap;have hadd:Vk st1 p=_:=Q1x.out;have hseg:=Qpe.out;have Qq4:=Qju.out;rw [<-hseg] at Qq4;obtain ⟨G3,hL3,hG3,hK3⟩:=Qq4.stop rfl
    have hst:(⟨(E9++[(⟨ca,cc,p⟩:Row)]).map Row.data,(Vk st1 p).Qk,st1.synced,st1.dead⟩:J2)=Vk st1 p:=by
     rw [List.map_append,<-Qyw.out];rw [hadd];rfl
    rw [hst] at hL3;have Qv6:=Hy.out.Aw hL3 hG3 hK3
    have Zv:=zz (show Qax w r x P F G (Y8 P s st p) (.returned (.tuple #[.int .i64 (k1:Int), .int .i64 0])) Q3p from by
     unfold Qax;rw [hap];refine ⟨rfl,F10,G3,Qv6,Ks.out.1,Ks.out.2.1.trans hG3 Ks.out.2.2.size,Ks.out.2.2.trans (T:=G1) hK3 λi hi hg=>?_⟩;rcases Ks.out.2.1 i hg with h1|h1
     ·exact .inr h1
     ·omega)
    clear hap hadd hseg Qq4 hL3 hG3 hK3 hst Qv6;go_wp2_with fail
    go_ret2
    exact Zv.out
end Go.Proofs.YtgnkmjeoaoongaaGreatDoor
