/- store -/
import Derived.Test.YtgnkmjeoaoongaaGreatDoorVb6
set_option maxRecDepth 100000
set_option maxHeartbeats 4000000
namespace Go.Proofs.YtgnkmjeoaoongaaGreatDoor
open Go.RowKit Go.Mer
def J9u (w:World) (p:List UInt8) (e:Ending) (w':World):Prop:= ∃a c,e= .returned (.tuple #[.slice a (Jt p).length c, .int .i64 0])/\Rd w' w'.heap.size a (u8s (Jt p))/\Kp No w w'/\ ∀g o,a=some ⟨g,o,none⟩->w.heap.size<=g
theorem N6 (w:World) (a:Option Addr) (cap:Nat) (p:List UInt8) (hR:Rd w w.heap.size a (u8s p)) (hl:p.length<=262144):
  Calls Tryz.prog 197 #[.slice a p.length cap] w (J9u w p):=by
 have hd:decide ((262144:Int)<(p.length:Int))=false:=by rw [decide_eq_false_iff_not];omega
 have hd2:decide (262144<p.length)=false:=by rw [decide_eq_false_iff_not];omega
 have hmod:(p.length:Int) % 4294967296=(p.length:Int):=Int.emod_eq_of_lt (by omega) (by omega);obtain ⟨n,Qvs⟩: ∃n,n=p.length:=⟨_,rfl⟩;have HF:=zz (λ(x:Nat) (hx:x<4294967296) W=>Qgm x hx W);have Q9x:=zz (And.intro Qvs hl);have HR:=zz hR;rw [<-Qvs] at hd hd2 hmod⊢;obtain ⟨S0,hS0⟩: ∃S,S=crc (Z9 n):=⟨_,rfl⟩;have Di:=zz (And.intro hS0 (show S0<4294967296 by rw [hS0];exact Q4i _));obtain ⟨S1,hS1⟩: ∃S,S=crc (Xm p):=⟨_,rfl⟩;have Aq:=zz (And.intro hS1 (show S1<4294967296 by rw [hS1];exact Q4i _));clear Qvs hl hR hS0 hS1;go_enter Tryz.func197,Tryz.ntmps197
 go_wp2_with fail
 have hc:=HF.out n (by rw [Q9x.out.1];have:=Q9x.out.2;omega) w;with_reducible refine hc.mono ?_
 rintro e w1 ⟨a1,c1,rfl,o1,f1,k1⟩;simp only [J6] at o1 f1⊢;have Qyx:=zz (And.intro o1 (And.intro f1 k1));have hs:=Q8r (n:=4) (l:=Z9 n) (show Mer.Own w1 5 1 (.slice a1 4 c1) (Z9 n).length (u8s (Z9 n)) from o1) rfl (I5 n);simp only [<-show S0=_ from Di.out.1] at hs;clear o1 f1 k1 hc hmod;go_wp2_with fail
 with_reducible refine hs.mono ?_
 rintro e w2 ⟨rfl,rfl⟩;clear hs;go_wp2_with fail
 have hc:=HF.out S0 Di.out.2 w1;with_reducible refine hc.mono ?_
 rintro e w3 ⟨a3,c3,rfl,o3,_,k3⟩;simp only [J6] at o3⊢;obtain ⟨a4,c4,w4,hrun,o4,f4,k4⟩:=Yb w w3 (.slice a1 4 c1) (Z9 n) (Z9 S0) (Qyx.out.1.keep k3 λ_ _ x=>x) Qyx.out.2.1 (Qyx.out.2.2.Q0 k3) a3 c3 o3.rd' (by rw [J6,J6];omega);have hh:Z9 n++Z9 S0=Ey n:=by unfold Ey;rw [Di.out.1]
 rw [hh,J6,Zp] at hrun;rw [hh,Zp] at o4 f4;have Qxk:=zz hrun;have Qyz:=zz (And.intro o4 (And.intro f4 k4));clear hrun o4 f4 k4 o3 k3 hc hh;go_upto_region 5 with (at_builtin;refine wpList_append_run rfl rfl rfl rfl Qxk.out ?_)
 obtain ⟨a5,c5,w5,hrun,o5,f5,k5⟩:=Yb w w4 (.slice a4 8 c4) (Ey n) p Qyz.out.1 Qyz.out.2.1 Qyz.out.2.2 a cap ((HR.out.keep Qyz.out.2.2 λ_ _ x=>x).mono Qyz.out.2.2.size (Nat.le_refl _)) (by rw [Zp];have:=Q9x.out.2;omega);have hb:Ey n++p=Xm p:=by unfold Xm;rw [Q9x.out.1]
 have hbl:(Xm p).length<=262152:=by rw [<-hb,List.length_append,Zp];have:=Q9x.out.2;omega
 rw [hb,<-Q9x.out.1] at hrun;rw [hb] at o5 f5;obtain ⟨nb,hnb⟩: ∃nb,nb=(Xm p).length:=⟨_,rfl⟩;rw [<-hnb] at hrun f5;have hs:=Q8r (n:=nb) (l:=Xm p) (show Mer.Own w5 5 1 (.slice a5 nb c5) (Xm p).length (u8s (Xm p)) by rw [hnb];exact o5) hnb (by omega);simp only [<-show S1=_ from Aq.out.1] at hs;have J43:=zz hrun;have Qxe:=zz (And.intro o5 (And.intro f5 (And.intro k5 (And.intro hnb hbl))));have HS:=zz hs;clear hrun o5 f5 k5 hb hbl hnb hs;go_upto_region 6 with (at_builtin;refine wpList_append_run rfl rfl rfl rfl J43.out ?_)
 go_wp2_with fail
 have hs:=HS.out;with_reducible refine hs.mono ?_
 rintro e w6 ⟨rfl,rfl⟩;clear hs;go_wp2_with fail
 have hc:=HF.out S1 Aq.out.2 w5;with_reducible refine hc.mono ?_
 rintro e w7 ⟨a7,c7,rfl,o7,_,k7⟩;simp only [J6] at o7⊢;obtain ⟨a8,c8,w8,hrun,o8,f8,k8⟩:=Yb w w7 (.slice a5 nb c5) (Xm p) (Z9 S1) (by have:=Qxe.out.1.keep k7 λ_ _ x=>x;rw [<-Qxe.out.2.2.2.1] at this;rw [<-Qxe.out.2.2.2.1];exact this) Qxe.out.2.1 (Qxe.out.2.2.1.Q0 k7) a7 c7 o7.rd' (by have:=Qxe.out.2.2.2.2;rw [J6];omega);have hh:Xm p++Z9 S1=Jt p:=by unfold Jt;rw [Aq.out.1]
 rw [hh,J6] at hrun;rw [hh] at o8;have Qi0:=zz hrun;have Yf:=zz (show J9u w p (.returned (.tuple #[.slice a8 (Jt p).length c8, .int .i64 0])) w8 from ⟨a8,c8,rfl,o8.rd',k8,λg o ha=>f8 g (by rw [ha];rfl)⟩);clear hrun o8 f8 k8 o7 k7 hc hh;go_wp2_with (at_builtin;refine wpList_append_run rfl rfl rfl rfl Qi0.out ?_)
 exact bodyPost_ret (v:= .tuple #[.slice a8 (Jt p).length c8, .int .i64 0]) (by simp [results,Tryz.results197,go_sem]) rfl Yf.out
theorem Qrf (s:Qz) (x:ByteArray):(Da s x).1≠6:=by
 unfold Da five;split
 ·show (9:Int)≠6;decide
 ·split
  ·split
   ·show (0:Int)≠6;decide
   ·unfold Uw;split
    ·show (7:Int)≠6;decide
    ·show (0:Int)≠6;decide
  ·show (1:Int)≠6;decide
theorem Q1u (P:ByteArray) (s:Qz) (st:Jf):(J0 P s st).1≠6:=by
 unfold J0;split
 ·split
  ·show (0:Int)≠6;decide
  ·exact Qrf _ _
 ·show (0:Int)≠6;decide
def Qes (w:World) (r x:Nat) (P:ByteArray) (F G:Nat->Prop) (q:(Nat×Int)×Qz×Jf) (e:Ending) (w':World):Prop:=
 e= .returned (.tuple #[.int .i64 (q.1.1:Int), .int .i64 q.1.2])/\Ym w r x P F G q.2.1 q.2.2 w'
theorem Ym.kp {w a:World} {d l:Nat} {P:ByteArray} {F G:Nat->Prop} {s':Qz} {st':Jf} (h:Ym w d l P F G s' st' a):Kp (V2 F G) w a:=by
 obtain ⟨_,_,_,_,_,h⟩:=h;exact h
theorem Q9l (w:World) (r x:Nat) (P:ByteArray) (s:Qz) (st:Jf) (F G:Nat->Prop) (h:Ms w r x P s st F G) (hne:st.Qk=[]->st.Qi.length<=st.synced) (hsl:st.synced<=st.Qi.length) (hfew:st.Qi.length+1<1000000) (hz: ∀z∈st.Qk,z.1<1000000) (Q7g:st.Qk.length<=1000000) (hP:P.size<=50) (htr:Qdb P s st)
  (pa:Option Addr) (pc:Nat) (p:List UInt8) (hp: ∀W,Kp (V2 F G) w W->Rd W W.heap.size pa (u8s p)) (hpl:p.length<=1000000000):
  Calls Tryz.prog 122 #[.pointer (some ⟨x,0,none⟩), .slice pa p.length pc] w (Qes w r x P F G (Jz P s st p)):=by
 obtain ⟨sv,ev,E,hC,hE,Q0c,Ku⟩:=h.log;obtain ⟨c0,c1,c2,c3,_,c5,_⟩:=hC.cells;have hll:=Q7 hC.cell;obtain ⟨ea,ec,rfl,Qob,_⟩:=hC.Qi.rd;obtain ⟨pl,Qbs⟩: ∃pl,pl=p.length:=⟨_,rfl⟩;rw [<-Qbs] at hpl⊢;obtain ⟨en,hen⟩: ∃en,en=E.length:=⟨_,rfl⟩;rw [<-hen] at c2;obtain ⟨k1,hk1⟩: ∃k1,k1=en+1:=⟨_,rfl⟩;have Qxx:st.Qi.length+1=k1:=by rw [hk1,hen,hE,List.length_map]
 have HW1:=zz (show wrap64 ((en:Int)+1)=(k1:Int) by
  rw [IntWalk.wrap64_in _ (by omega),hk1];push_cast
  rfl)
 have J09:=c2 w zK;have J0a:=c3 w zK;have Hr:=c5 w zK;have H:=zz h;have Qoq:=zz (And.intro hne hsl);have El:=zz (And.intro hfew (And.intro Q7g hz));have Qzl:=zz htr;have HP:=zz hp;have M0:=zz Qbs;have HC:=zz hC;have HE:=zz hE;have Qny:=zz hen;have Q29:=zz Qxx;have Qxb:=zz Q0c;have Qae:=zz hpl;clear h hne hsl hfew hz Q7g htr hp Qbs hC hE Q0c Ku c0 c1 c2 c3 c5 hk1 Qxx hen Qob;cases hd:st.dead with
 |true=>
  have HQ:=zz (show Jz P s st p=((0,9),s,st) by unfold Jz;rw [if_pos hd]);rw [hd] at Hr;clear hd;go_enter Tryz.func122,Tryz.ntmps122
  go_wp2_with fail
  go_ret2
  rw [HQ.out];exact ⟨rfl,Ym.here H.out zK⟩
 |false=>
  by_cases hlong:262134<pl
  ·have HQ:=zz (show Jz P s st p=((0,5),s,st) by unfold Jz;rw [if_neg (by rw [hd];decide),if_pos (by rw [<-M0.out];exact hlong)]);have e1:decide ((262134:Int)<(pl:Int))=true:=by rw [decide_eq_true_iff];omega
   rw [hd] at Hr;clear hd;go_enter Tryz.func122,Tryz.ntmps122
   go_wp2_with fail
   go_ret2
   rw [HQ.out];exact ⟨rfl,Ym.here H.out zK⟩
  ·have e1:decide ((262134:Int)<(pl:Int))=false:=by rw [decide_eq_false_iff_not];omega
   have HD:=zz hd;rw [hd] at Hr;have Fe:=zz (show p.length<=262134 by rw [<-M0.out];omega);clear hd;rcases List.eq_nil_or_concat st.Qk with hsg|⟨S1,z,hsg⟩
   obtain ⟨sa,sc,rfl,_⟩:=HC.out.Qk.rd;have Q4b:=zz hsg;rw [hsg] at J0a;have hl0:(([]:List (Nat×Nat)).map (·.1)).length=0:=rfl;rw [hl0] at J0a;clear hsg hl0;have hw1:=HW1.out;go_enter Tryz.func122,Tryz.ntmps122
   go_upto_region 15 with fail
   rw [hw1];clear hw1;obtain ⟨s1,hs1⟩: ∃s1,s1=s:=⟨_,rfl⟩;obtain ⟨st1,hst1⟩: ∃st1,st1=st:=⟨_,rfl⟩;have Aq:=zz (show Ym w r x P F G s1 st1 w from by rw [hs1,hst1];exact Ym.here H.out zK);have Q2k:=zz (show Ju P s st=(0,s1,st1) from by rw [hs1,hst1];exact Q8k Q4b.out);have HST:=zz (show st1.Qi=st.Qi/\st1.Qk=st.Qk/\st1.dead=false from by rw [hst1];exact ⟨rfl,rfl,HD.out⟩);have Bq:=zz (Et Q4b.out);have Hp:=zz (show X7 P k1=toN P st by unfold toN;rw [if_pos Bq.out,Q29.out]);have Oq:=zz (show k1<1000000 by rw [<-Q29.out];exact El.out.1);clear hs1 hst1 J09 J0a Hr;have hkx:=Aq.out.kp;have Qu3:=zz (HP.out w hkx);have L5:k1<=1000000000000:=by rw [<-Q29.out];have:=El.out.1;omega
   have Gm:=Q1b k1 L5 w;have Cx:=zz Gm;have Dh:=zz L5;clear hkx Gm L5;go_wp2_with fail
   have hc:=Cx.out;with_reducible refine hc.mono ?_
   rintro e w5 ⟨na,nc,rfl,Qbp,hf5,hk5⟩;clear hc Cx
   obtain ⟨a6,c6,w6,hrun,Ib,Qvd,hk6⟩:=Yb w w5 (.slice na (Qq k1).length nc) (Qq k1) p Qbp hf5 hk5 pa pc (Qu3.out.kp hk5) (by
    have:=(Zv k1 Dh.out p).2;have:=Fe.out;omega)
   obtain ⟨M,hM⟩: ∃M,M=Qq k1++p:=⟨_,rfl⟩;rw [<-hM] at hrun Ib
   have hen:=N6 w6 a6 c6 M Ib.rd' (by
    rw [hM,List.length_append];have:=(Zv k1 Dh.out p).2;have:=Fe.out;omega)
   rw [<-M0.out] at hrun;have Qo4:=zz hrun;have Qs3:=zz hen;have Fw:=zz hk6;have HM:=zz (show Jt M=Zo k1 p by rw [hM];rfl);clear hM Qbp hf5 hk5 hrun Ib Qvd hk6 hen;go_wp2_with (at_builtin;refine wpList_append_run rfl rfl rfl rfl Qo4.out ?_)
   have hc:=Qs3.out;with_reducible refine hc.mono ?_
   rintro e w8 ⟨fa,fc,rfl,Ql6,hk8,Qoc⟩;clear hc Qs3;obtain ⟨F1,G1,hX1,hF1,hG1,hK1⟩:=Aq.out;have Dz:Kp No w w8:=Fw.out.Q0 hk8;have Q2p:=hX1.no Dz;obtain ⟨Qy1,Qxq,Ex,Qb6,Quw,Q74,_⟩:=Q2p.log;have Q2e: ∀W,Kp F1 w8 W->Yl W x r P Qy1 Qxq (st1.Qk.map (·.1)) Ex (st1.synced+1) st1.dead:=λW hW=>Qb6.keep hW (λk hk hf=>Q2p.sep k hf (Q74 k hk));have g0: ∀W,Kp F1 w8 W->W.cell? ⟨x,0,none⟩=some (.pointer (some ⟨r,0,none⟩)):=λW hW=>(Q2e W hW).cells.1 W zK;have g1: ∀W,Kp F1 w8 W->W.cell? ⟨x,1,none⟩=some (.string P):=λW hW=>(Q2e W hW).cells.2.1 W zK;have Qbl:=Q7 Qb6.cell
   have Q78:0<(u8s (Jt M)).length-> ∀k o,fa=some ⟨k,o,none⟩-> ¬F1 k:=λ_ k o ha hf=>by
    have h1:=Qoc k o ha;have h2:=hX1.disk.lt k hf;have h3:=Fw.out.size;omega
   obtain ⟨fl,hfl⟩: ∃fl,fl=(Jt M).length:=⟨_,rfl⟩;rw [<-hfl];have Qeu:=zz (show fl=(Zo k1 p).length by rw [hfl,HM.out])
   have hwr:=λW (hW:Kp No w8 W)=>Ld W r s1 F1 (Q2p.disk.Q9 hW) (X7 P k1) fa fc (Jt M) (Ql6.kp hW) (by
    have:=Zv k1 Dh.out p;have h2:=Fe.out;rw [HM.out];omega) Q78
   rw [<-hfl] at hwr;have De:=zz hwr;have Q2a:=zz (λW=>Kl P (by omega) k1 Oq.out W);have Df:=zz (And.intro Q2p (And.intro hF1 (And.intro hG1 hK1)));have Br:=zz Dz;clear Ql6 hk8 Qoc hX1 hF1 hG1 hK1 Dz Q2p Qb6 Quw Q74 Q2e Q78 hfl hwr;go_upto_region 16 with fail
   refine zD F1 [0,0,0,0,0,0,0,0,0,2,0,2,0] [0,1,2,3,4,5,6,7,8,10,9,11,12] ?_;repeat (first|refine zA ?_|refine zB ?_|refine zC ?_)
   refine Q8 rfl rfl (λn2=>?_);have hc:=Q2a.out (w8.drewN n2);go_wp2_with fail
   with_reducible refine hc.mono ?_
   rintro e w9 ⟨rfl,hk9⟩;clear hc;go_wp2_with fail
   have Ia:Kp No w8 w9:=hk9.Qf;refine ⟨Kp.Qx Ia,?_⟩;refine Q8 rfl rfl (λn3=>?_);have hc:=De.out (w9.drewN n3) (Ia.drewN n3);obtain ⟨q,hqe⟩: ∃q,q=Gy s1 (X7 P k1) (Jt M):=⟨_,rfl⟩;have hqc:=Ai s1 (X7 P k1) (Jt M);rw [<-hqe] at hc hqc;have HQ:=zz (show q=Gy s1 (toN P st) (Zo k1 p) by rw [hqe,Hp.out,HM.out]);have A5:=zz Ia;clear hqe hk9 Ia De Q2a;go_wp2_with fail
   with_reducible refine hc.mono ?_
   rintro e w10 ⟨rfl,F10,Q73,Q0b,hK10⟩;clear hc;have N0:Kp F1 w9 w10:=hK10.Qf;have Q76:Ms w10 r x P q.2 st1 F10 G1:=(Df.out.1.no A5.out).Q1w Q73 Q0b N0;obtain ⟨qc,hqe⟩: ∃qc,qc=q.1:=⟨_,rfl⟩;rw [<-hqe] at hqc⊢;have Q2b:=zz hqe;have Qis:=zz Q76;have Dy:Kp F1 w8 w10:=(Kp.Qx A5.out).Q0 N0
   have Ar:=zz (show Je F F10 w/\Je G G1 w/\Kp (V2 F G) w w10 from by
    refine ⟨Df.out.2.1.trans (λk hk=>(Q0b k hk).imp id λh=>Nat.le_trans (Nat.le_trans Br.out.size A5.out.size) h) Df.out.2.2.2.size,Df.out.2.2.1,?_⟩;refine (Df.out.2.2.2.Qr Br.out).trans Dy λi hi hf=>?_;rcases Df.out.2.1 i hf with h1|h1
    ·exact .inl h1
    ·omega)
   have Q6c:=zz Dy;clear Q73 Q0b hK10 N0 Q76 hqe Dy;go_wp2_with fail
   refine ⟨Q6c.out,?_⟩;repeat (first|refine zA ?_|refine zB ?_|refine zC ?_)
   refine Qa (λnq=>?_);clear g0 g1 Qbl;obtain ⟨Hl,L6⟩: ∃W,W=w10.drewN nq:=⟨_,rfl⟩;have Q0e:Kp No w10 Hl:=by rw [L6];exact (Kp.refl No w10).drewN nq
   rw [<-L6];have Bs:=zz (Qis.out.no Q0e);have D5:=zz (show Je F F10 w/\Je G G1 w/\Kp (V2 F G) w Hl from ⟨Ar.out.1,Ar.out.2.1,Ar.out.2.2.Qr Q0e⟩);clear L6 Q0e;by_cases hqz:qc=0
   rotate_left
   ·have e3:(qc==(0:Int))=false:=by rw [beq_eq_false_iff_ne];exact hqz
    have e4:(qc !=(0:Int))=true:=by rw [bne,e3];rfl
    have hfa:=Q05 Hl r x P q.2 st1 F10 G1 Bs.out HST.out.2.2 qc;have hap:=C2 (p:=p) HD.out Fe.out Q2k.out;rw [Q29.out,<-HQ.out,if_neg (by rw [<-Q2b.out];exact hqz),<-Q2b.out] at hap;have Kx:=zz hap;clear hap;go_wp2_with fail
    with_reducible refine hfa.mono ?_
    rintro e w12 ⟨rfl,hsx⟩;have Yf:=zz (show Ym w r x P F G q.2 {st1 with dead:=qc !=6} w12 from Ym.trans ⟨F10,G1,Bs.out,D5.out.1,D5.out.2.1,D5.out.2.2,hsx⟩);clear hfa hsx;go_wp2_with fail
    go_ret2
    rw [Kx.out];exact ⟨rfl,Yf.out⟩
   rotate_right;obtain ⟨J9p,J6p,E9,Fh,Qdp,_⟩:=Yz.start Bs.out.log;obtain ⟨Q2f,Q2g,rfl,_,_⟩:=Fh.c.Qk.rd;obtain ⟨Lk,Ll,rfl,_,_⟩:=Fh.c.Qi.rd;obtain ⟨Ge,Q0d⟩: ∃Ge,Ge=E9.length:=⟨_,rfl⟩
   have Dx:Ge<=1000000:=by
    have h2:=congrArg List.length Qdp;rw [List.length_map,HST.out.1] at h2;have h3:=El.out.1;omega
   have Vc:=zz Fh;have J5b:=zz Qdp;have Hw:=zz Q0d;have An:=zz Dx;clear Fh Qdp Q0d Dx;have Q7f:qc=0:=hqz;rw [Q7f] at Q2b;clear hqc;subst Q7f;obtain ⟨Kw,Fz⟩: ∃Kw,Kw=(st1.Qk.map (·.1)).length:=⟨_,rfl⟩;have Qt5:Kw<=1000000:=by rw [Fz,List.length_map,HST.out.2.1];exact El.out.2.1
   have C7:=Vc.out.c;rw [<-Fz] at C7;have Qkv:=Q7 C7.cell;have hos:=C7.Qk;obtain ⟨a',c',w12,hrn,ho',O9,I8⟩:=Og (T:=188) (E:=3) (sz:=1) (bytes:=8) Tryz.underlying188 Qdw (W:=Hl) (v:= .slice Q2f Kw Q2g) (n:=Kw) (xs:=(st1.Qk.map (·.1)).flatMap Q5c) (by rw [Fz];rw [Fz] at hos;exact hos) (news:=Q5c k1) (Q8d k1) rfl (cs:= #[.int .i64 (k1:Int)]) rfl (by omega) (by omega);have Qum:=C7.cells.2.2.2.1 Hl zK;have hcW:=O9.get C7.cell λe=>(Vc.out.c.Xf (by rw [Fz] at e;exact e)).1 rfl;have Qvm:w12.cell? ⟨x,3,none⟩=some (.slice Q2f Kw Q2g):=by rw [Q4 hcW];rfl
   have Qvc:=Qh hcW 3;have Qvp:=Q7 hcW;have hnew:=Vc.out.J4x (S':=st1.Qk.map (·.1)++[k1]) (W':=w12) (sv':= .slice a' (Kw+1) c') (by rw [<-Fz];exact O9) (by rw [List.length_append,List.length_singleton,<-Fz,List.flatMap_append,List.flatMap_cons,List.flatMap_nil,List.append_nil];exact ho') (by rw [<-Fz];exact I8);have Y4:=zz hnew;have Qua:=zz hrn;clear hnew hrn ho' O9 I8 hcW C7 hos Fz;go_upto_region 20 with fail
   go_upto_region 21 with (at_builtin;refine wpList_append_run rfl rfl rfl rfl Qua.out ?_)
   obtain ⟨E1,N1⟩: ∃W,W=w12.setCell ⟨x,3,none⟩ (.slice a' (Kw+1) c'):=⟨_,rfl⟩;rw [<-N1] at Y4⊢;clear N1 Qvm Qvc Qvp Qum Qkv;have D4:=Y4;obtain ⟨J9q,Q7i⟩: ∃v:Value,v=(.slice a' (Kw+1) c'):=⟨_,rfl⟩;obtain ⟨st2,hst2⟩: ∃l,l=(st1.Qk.map (·.1)++[k1]):=⟨_,rfl⟩;have B9:Y5 st1 p=_:=C1 (show Jj st1=true by unfold Jj;rw [HST.out.2.1];exact Bq.out);have Q46:=zz B9;clear B9;have Quc:=zz (show (Y5 st1 p).Qk.map (·.1)=st2 by rw [Q46.out,hst2];simp [HST.out.1,Q29.out]);rw [<-Q7i,<-hst2] at D4;clear Q7i hst2;rotate_left;rw [List.concat_eq_append] at hsg;have Q4o:=HC.out;rw [hsg,List.map_append,List.map_cons,List.map_nil] at Q4o;obtain ⟨sg,Hc,sn,sc,rfl,hsn,Qqa,Qbu,Gt⟩:=Q4o.Oc;obtain ⟨m2,hm2⟩: ∃m2,m2=(S1.map (·.1)).length:=⟨_,rfl⟩;rw [<-hm2] at hsn Gt;have hms:m2<sn:=by omega
   have hw3:(sn:Int)-1=(m2:Int):=by omega
   have Jh5:((sn:Int)==(0:Int))=false:=by rw [beq_eq_false_iff_ne];omega
   have Q7k:=El.out.2.2 z (by rw [hsg];simp);have htz:=Qzl.out S1 z hsg;have hc3:=Q4o.cells.2.2.2.1;obtain ⟨zn,hzn⟩: ∃zn,zn=z.1:=⟨_,rfl⟩;obtain ⟨zb,hzb⟩: ∃zb,zb=z.2:=⟨_,rfl⟩;have hsz:=Qn1 w r x P s st F G H.out S1 z hsg hP Q7k;rw [htz,<-hzb] at hsz;rw [<-hzn] at Gt Q7k;have Q4b:=zz hsg;have J67:=zz hzn;have Qsc:=zz hzb;have Jeu:=zz Q7k;have Db:=zz hc3;have Qzh:=zz Gt;clear hsg Q4o hsn hm2 Q7k htz hzn hzb hc3 Gt;by_cases hfr:1024<=zb
   have e4:decide ((1024:Int)<=(zb:Int))=true:=by rw [decide_eq_true_iff];omega
   have Bq:=zz (show Jj st=true by rw [Es Q4b.out,<-Qsc.out];exact decide_eq_true hfr);have Qin:=zz (Q3t (P:=P) (s:=s) Bq.out (by rw [Q4b.out];simp));clear hfr;have hw1:=HW1.out;go_enter Tryz.func122,Tryz.ntmps122
   go_upto_region 7 with fail
   rw [hw1];clear hw1;go_wp2_with fail
   with_reducible refine hsz.mono ?_
   rintro e w3 ⟨rfl,hk3⟩;clear hsz;have hsy:=Q44 w3 r x P s st F G (H.out.no hk3) Qoq.out.1 Qoq.out.2 (Nat.le_of_lt (Nat.lt_trans (Nat.lt_succ_self _) El.out.1)) El.out.2.2 hP;obtain ⟨qs,Qt2⟩: ∃qs,qs=J0 P s st:=⟨_,rfl⟩;obtain ⟨kn,hkn⟩:=Cr P s st;have Qvr:=Q1u P s st;have hsame:=Ol P s st
   have J2g:Yi P s st=(qs.1,qs.2.1,{qs.2.2 with dead:=decide (qs.1≠0)}):=by
    unfold Yi;rw [if_neg (by rw [HD.out];decide),Qt2]
   rw [<-Qt2] at hkn hsame Qvr;unfold Qal at hsy;rw [J2g] at hsy;have Lq:=zz (show Ju P s st=qs by rw [Qt2];exact Qin.out);have Lr:=zz hsame;have U3:=zz hkn;have J3y:=zz Qvr;have Zk:=zz hk3;clear Qt2 Qin hkn hsame hk3 Qvr J2g;go_wp2_with fail
   with_reducible refine hsy.mono ?_
   rintro e w4 ⟨rfl,hs4⟩;clear hsy;simp only at hs4⊢
   rw [U3.out] at hs4⊢;have Q4v:Ym w r x P F G qs.2.1 {qs.2.2 with dead:=decide ((kn:Int)≠0)} w4:=Ym.trans ⟨F,G,H.out.no Zk.out,Je.refl _ _,Je.refl _ _,Kp.Qx Zk.out,hs4⟩;clear hs4;by_cases hkz:kn=0
   rotate_left
   ·have e5:((kn:Int)==(0:Int))=false:=by rw [beq_eq_false_iff_ne];omega
    have e6:((kn:Int) !=(0:Int))=true:=by rw [bne,e5];rfl
    have hap:=Qja (p:=p) HD.out Fe.out (show (Ju P s st).1≠0 by rw [Lq.out,U3.out];omega);rw [Lq.out,U3.out] at hap
    have h6:((kn:Int) !=6)=true:=by
     have:=J3y.out;rw [U3.out] at this;simp only [bne_iff_ne,ne_eq];exact this
    have h7:decide ((kn:Int)≠0)=true:=decide_eq_true (by omega);rw [h6] at hap;rw [h7] at Q4v;have Yf:=zz (show Qes w r x P F G (Jz P s st p) (.returned (.tuple #[.int .i64 0, .int .i64 (kn:Int)])) w4 from by unfold Qes;rw [hap];exact ⟨rfl,Q4v⟩);clear hap Q4v;go_wp2_with fail
    go_ret2
    exact Yf.out
   rotate_right;subst hkz;obtain ⟨s1,hs1⟩: ∃s1,s1=qs.2.1:=⟨_,rfl⟩;obtain ⟨st1,hst1⟩: ∃st1,st1=qs.2.2:=⟨_,rfl⟩
   have hdd:({qs.2.2 with dead:=decide (((0:Nat):Int)≠0)}:Jf)=st1:=by
    rw [hst1];have h1:qs.2.2.dead=false:=by rw [Lr.out.2.2];exact HD.out
    have h0:decide (((0:Nat):Int)≠0)=false:=by decide
    rw [h0,<-h1]
   rw [hdd,<-hs1] at Q4v;have Aq:=zz Q4v
   have Q2k:=zz (show Ju P s st=(0,s1,st1) from by
    rw [Lq.out,hs1,hst1];have:=U3.out;rw [show ((0:Nat):Int)=0 from rfl] at this;rw [<-this])
   have HST:=zz (show st1.Qi=st.Qi/\st1.Qk=st.Qk/\st1.dead=false from by rw [hst1];exact ⟨Lr.out.1,Lr.out.2.1,by rw [Lr.out.2.2];exact HD.out⟩);have Hp:=zz (show X7 P k1=toN P st by unfold toN;rw [if_pos Bq.out,Q29.out]);have Oq:=zz (show k1<1000000 by rw [<-Q29.out];exact El.out.1);clear hs1 hst1 hdd Q4v J09 J0a Hr Lq Lr U3 J3y;go_upto_region 15 with fail
   have hkx:=Aq.out.kp;have Qu3:=zz (HP.out w4 hkx);have L5:k1<=1000000000000:=by rw [<-Q29.out];have:=El.out.1;omega
   have Gm:=Q1b k1 L5 w4;have Cx:=zz Gm;have Dh:=zz L5;clear hkx Gm L5;go_wp2_with fail
   have hc:=Cx.out;with_reducible refine hc.mono ?_
   rintro e w5 ⟨na,nc,rfl,Qbp,hf5,hk5⟩;clear hc Cx
   obtain ⟨a6,c6,w6,hrun,Ib,Qvd,hk6⟩:=Yb w4 w5 (.slice na (Qq k1).length nc) (Qq k1) p Qbp hf5 hk5 pa pc (Qu3.out.kp hk5) (by
    have:=(Zv k1 Dh.out p).2;have:=Fe.out;omega)
   obtain ⟨M,hM⟩: ∃M,M=Qq k1++p:=⟨_,rfl⟩;rw [<-hM] at hrun Ib
   have hen:=N6 w6 a6 c6 M Ib.rd' (by
    rw [hM,List.length_append];have:=(Zv k1 Dh.out p).2;have:=Fe.out;omega)
   rw [<-M0.out] at hrun;have Qo4:=zz hrun;have Qs3:=zz hen;have Fw:=zz hk6;have HM:=zz (show Jt M=Zo k1 p by rw [hM];rfl);clear hM Qbp hf5 hk5 hrun Ib Qvd hk6 hen;go_wp2_with (at_builtin;refine wpList_append_run rfl rfl rfl rfl Qo4.out ?_)
   have hc:=Qs3.out;with_reducible refine hc.mono ?_
   rintro e w8 ⟨fa,fc,rfl,Ql6,hk8,Qoc⟩;clear hc Qs3;obtain ⟨F1,G1,hX1,hF1,hG1,hK1⟩:=Aq.out;have Dz:Kp No w4 w8:=Fw.out.Q0 hk8;have Q2p:=hX1.no Dz;obtain ⟨Qy1,Qxq,Ex,Qb6,Quw,Q74,_⟩:=Q2p.log;have Q2e: ∀W,Kp F1 w8 W->Yl W x r P Qy1 Qxq (st1.Qk.map (·.1)) Ex (st1.synced+1) st1.dead:=λW hW=>Qb6.keep hW (λk hk hf=>Q2p.sep k hf (Q74 k hk));have g0: ∀W,Kp F1 w8 W->W.cell? ⟨x,0,none⟩=some (.pointer (some ⟨r,0,none⟩)):=λW hW=>(Q2e W hW).cells.1 W zK;have g1: ∀W,Kp F1 w8 W->W.cell? ⟨x,1,none⟩=some (.string P):=λW hW=>(Q2e W hW).cells.2.1 W zK;have Qbl:=Q7 Qb6.cell
   have Q78:0<(u8s (Jt M)).length-> ∀k o,fa=some ⟨k,o,none⟩-> ¬F1 k:=λ_ k o ha hf=>by
    have h1:=Qoc k o ha;have h2:=hX1.disk.lt k hf;have h3:=Fw.out.size;omega
   obtain ⟨fl,hfl⟩: ∃fl,fl=(Jt M).length:=⟨_,rfl⟩;rw [<-hfl];have Qeu:=zz (show fl=(Zo k1 p).length by rw [hfl,HM.out])
   have hwr:=λW (hW:Kp No w8 W)=>Ld W r s1 F1 (Q2p.disk.Q9 hW) (X7 P k1) fa fc (Jt M) (Ql6.kp hW) (by
    have:=Zv k1 Dh.out p;have h2:=Fe.out;rw [HM.out];omega) Q78
   rw [<-hfl] at hwr;have De:=zz hwr;have Q2a:=zz (λW=>Kl P (by omega) k1 Oq.out W);have Df:=zz (And.intro Q2p (And.intro hF1 (And.intro hG1 hK1)));have Br:=zz Dz;clear Ql6 hk8 Qoc hX1 hF1 hG1 hK1 Dz Q2p Qb6 Quw Q74 Q2e Q78 hfl hwr;go_upto_region 16 with fail
   refine zD F1 [0,0,0,0,0,0,0,0,0,2,0,2,0] [0,1,2,3,4,5,6,7,8,10,9,11,12] ?_;repeat (first|refine zA ?_|refine zB ?_|refine zC ?_)
   refine Q8 rfl rfl (λn2=>?_);have hc:=Q2a.out (w8.drewN n2);go_wp2_with fail
   with_reducible refine hc.mono ?_
   rintro e w9 ⟨rfl,hk9⟩;clear hc;go_wp2_with fail
   have Ia:Kp No w8 w9:=hk9.Qf;refine ⟨Kp.Qx Ia,?_⟩;refine Q8 rfl rfl (λn3=>?_);have hc:=De.out (w9.drewN n3) (Ia.drewN n3);obtain ⟨q,hqe⟩: ∃q,q=Gy s1 (X7 P k1) (Jt M):=⟨_,rfl⟩;have hqc:=Ai s1 (X7 P k1) (Jt M);rw [<-hqe] at hc hqc;have HQ:=zz (show q=Gy s1 (toN P st) (Zo k1 p) by rw [hqe,Hp.out,HM.out]);have A5:=zz Ia;clear hqe hk9 Ia De Q2a;go_wp2_with fail
   with_reducible refine hc.mono ?_
   rintro e w10 ⟨rfl,F10,Q73,Q0b,hK10⟩;clear hc;have N0:Kp F1 w9 w10:=hK10.Qf;have Q76:Ms w10 r x P q.2 st1 F10 G1:=(Df.out.1.no A5.out).Q1w Q73 Q0b N0;obtain ⟨qc,hqe⟩: ∃qc,qc=q.1:=⟨_,rfl⟩;rw [<-hqe] at hqc⊢;have Q2b:=zz hqe;have Qis:=zz Q76;have Dy:Kp F1 w8 w10:=(Kp.Qx A5.out).Q0 N0
   have Ar:=zz (show Je F F10 w/\Je G G1 w/\Kp (V2 F G) w w10 from by
    refine ⟨Df.out.2.1.trans (λk hk=>(Q0b k hk).imp id λh=>Nat.le_trans (Nat.le_trans Br.out.size A5.out.size) h) Df.out.2.2.2.size,Df.out.2.2.1,?_⟩;refine (Df.out.2.2.2.Qr Br.out).trans Dy λi hi hf=>?_;rcases Df.out.2.1 i hf with h1|h1
    ·exact .inl h1
    ·omega)
   have Q6c:=zz Dy;clear Q73 Q0b hK10 N0 Q76 hqe Dy;go_wp2_with fail
   refine ⟨Q6c.out,?_⟩;repeat (first|refine zA ?_|refine zB ?_|refine zC ?_)
   refine Qa (λnq=>?_);clear g0 g1 Qbl;obtain ⟨Hl,L6⟩: ∃W,W=w10.drewN nq:=⟨_,rfl⟩;have Q0e:Kp No w10 Hl:=by rw [L6];exact (Kp.refl No w10).drewN nq
   rw [<-L6];have Bs:=zz (Qis.out.no Q0e);have D5:=zz (show Je F F10 w/\Je G G1 w/\Kp (V2 F G) w Hl from ⟨Ar.out.1,Ar.out.2.1,Ar.out.2.2.Qr Q0e⟩);clear L6 Q0e;by_cases hqz:qc=0
   rotate_left
   ·have e3:(qc==(0:Int))=false:=by rw [beq_eq_false_iff_ne];exact hqz
    have e4:(qc !=(0:Int))=true:=by rw [bne,e3];rfl
    have hfa:=Q05 Hl r x P q.2 st1 F10 G1 Bs.out HST.out.2.2 qc;have hap:=C2 (p:=p) HD.out Fe.out Q2k.out;rw [Q29.out,<-HQ.out,if_neg (by rw [<-Q2b.out];exact hqz),<-Q2b.out] at hap;have Kx:=zz hap;clear hap;go_wp2_with fail
    with_reducible refine hfa.mono ?_
    rintro e w12 ⟨rfl,hsx⟩;have Yf:=zz (show Ym w r x P F G q.2 {st1 with dead:=qc !=6} w12 from Ym.trans ⟨F10,G1,Bs.out,D5.out.1,D5.out.2.1,D5.out.2.2,hsx⟩);clear hfa hsx;go_wp2_with fail
    go_ret2
    rw [Kx.out];exact ⟨rfl,Yf.out⟩
   rotate_right;obtain ⟨J9p,J6p,E9,Fh,Qdp,_⟩:=Yz.start Bs.out.log;obtain ⟨Q2f,Q2g,rfl,_,_⟩:=Fh.c.Qk.rd;obtain ⟨Lk,Ll,rfl,_,_⟩:=Fh.c.Qi.rd;obtain ⟨Ge,Q0d⟩: ∃Ge,Ge=E9.length:=⟨_,rfl⟩
   have Dx:Ge<=1000000:=by
    have h2:=congrArg List.length Qdp;rw [List.length_map,HST.out.1] at h2;have h3:=El.out.1;omega
   have Vc:=zz Fh;have J5b:=zz Qdp;have Hw:=zz Q0d;have An:=zz Dx;clear Fh Qdp Q0d Dx;have Q7f:qc=0:=hqz;rw [Q7f] at Q2b;clear hqc;subst Q7f;obtain ⟨Kw,Fz⟩: ∃Kw,Kw=(st1.Qk.map (·.1)).length:=⟨_,rfl⟩;have Qt5:Kw<=1000000:=by rw [Fz,List.length_map,HST.out.2.1];exact El.out.2.1
   have C7:=Vc.out.c;rw [<-Fz] at C7;have Qkv:=Q7 C7.cell;have hos:=C7.Qk;obtain ⟨a',c',w12,hrn,ho',O9,I8⟩:=Og (T:=188) (E:=3) (sz:=1) (bytes:=8) Tryz.underlying188 Qdw (W:=Hl) (v:= .slice Q2f Kw Q2g) (n:=Kw) (xs:=(st1.Qk.map (·.1)).flatMap Q5c) (by rw [Fz];rw [Fz] at hos;exact hos) (news:=Q5c k1) (Q8d k1) rfl (cs:= #[.int .i64 (k1:Int)]) rfl (by omega) (by omega);have Qum:=C7.cells.2.2.2.1 Hl zK;have hcW:=O9.get C7.cell λe=>(Vc.out.c.Xf (by rw [Fz] at e;exact e)).1 rfl;have Qvm:w12.cell? ⟨x,3,none⟩=some (.slice Q2f Kw Q2g):=by rw [Q4 hcW];rfl
   have Qvc:=Qh hcW 3;have Qvp:=Q7 hcW;have hnew:=Vc.out.J4x (S':=st1.Qk.map (·.1)++[k1]) (W':=w12) (sv':= .slice a' (Kw+1) c') (by rw [<-Fz];exact O9) (by rw [List.length_append,List.length_singleton,<-Fz,List.flatMap_append,List.flatMap_cons,List.flatMap_nil,List.append_nil];exact ho') (by rw [<-Fz];exact I8);have Y4:=zz hnew;have Qua:=zz hrn;clear hnew hrn ho' O9 I8 hcW C7 hos Fz;go_upto_region 20 with fail
   go_upto_region 21 with (at_builtin;refine wpList_append_run rfl rfl rfl rfl Qua.out ?_)
   obtain ⟨E1,N1⟩: ∃W,W=w12.setCell ⟨x,3,none⟩ (.slice a' (Kw+1) c'):=⟨_,rfl⟩;rw [<-N1] at Y4⊢;clear N1 Qvm Qvc Qvp Qum Qkv;have D4:=Y4;obtain ⟨J9q,Q7i⟩: ∃v:Value,v=(.slice a' (Kw+1) c'):=⟨_,rfl⟩;obtain ⟨st2,hst2⟩: ∃l,l=(st1.Qk.map (·.1)++[k1]):=⟨_,rfl⟩;have B9:Y5 st1 p=_:=C1 (show Jj st1=true by unfold Jj;rw [HST.out.2.1];exact Bq.out);have Q46:=zz B9;clear B9;have Quc:=zz (show (Y5 st1 p).Qk.map (·.1)=st2 by rw [Q46.out,hst2];simp [HST.out.1,Q29.out]);rw [<-Q7i,<-hst2] at D4;clear Q7i hst2;rotate_left;have e4:decide ((1024:Int)<=(zb:Int))=false:=by rw [decide_eq_false_iff_not];omega
   have Bq:=zz (show Jj st=false by rw [Es Q4b.out,<-Qsc.out];exact decide_eq_false hfr);clear hfr;have hw1:=HW1.out;go_enter Tryz.func122,Tryz.ntmps122
   go_upto_region 7 with fail
   rw [hw1];clear hw1;go_wp2_with fail
   with_reducible refine hsz.mono ?_
   rintro e w3 ⟨rfl,hk3⟩;clear hsz;have f3: ∀W,Kp No w3 W->W.cell? ⟨x,3,none⟩=some (.slice (some ⟨sg,Hc,none⟩) sn sc):=λW hW=>Db.out W (hk3.Q0 hW);have fz: ∀W,Kp No w3 W->W.cell? ⟨sg,Hc+m2,none⟩=some (.int .i64 (zn:Int)):=λW hW=>Qzh.out W (hk3.Q0 hW);have hl3:=hk3.lt hll;have J8f:=hk3.lt Qbu;go_upto_region 14 with fail
   refine zD No [0,0,0,0,0,0,0,0,1,0,0,0,0] [0,1,2,3,4,5,6,7,8,9,10,11,12] ?_;repeat (first|refine zA ?_|refine zB ?_|refine zC ?_)
   refine Qa (λnq=>?_);go_upto_region 15 with fail
   obtain ⟨w4,hw4⟩: ∃W,W=w3.drewN nq:=⟨_,rfl⟩;have hk4:Kp No w w4:=by rw [hw4];exact hk3.drewN nq
   rw [<-hw4];clear hw4 f3 fz hl3 J8f hk3;obtain ⟨s1,hs1⟩: ∃s1,s1=s:=⟨_,rfl⟩;obtain ⟨st1,hst1⟩: ∃st1,st1=st:=⟨_,rfl⟩;have Aq:=zz (show Ym w r x P F G s1 st1 w4 from by rw [hs1,hst1];exact Ym.here H.out hk4);have Q2k:=zz (show Ju P s st=(0,s1,st1) from by rw [hs1,hst1];exact Qe7 Bq.out);have HST:=zz (show st1.Qi=st.Qi/\st1.Qk=st.Qk/\st1.dead=false from by rw [hst1];exact ⟨rfl,rfl,HD.out⟩);have Hp:=zz (show X7 P zn=toN P st by unfold toN;rw [if_neg (by rw [Bq.out];decide),Fj Q4b.out,J67.out]);have Oq:=zz Jeu.out;clear hs1 hst1 J09 J0a Hr hk4;have hkx:=Aq.out.kp;have Qu3:=zz (HP.out w4 hkx);have L5:k1<=1000000000000:=by rw [<-Q29.out];have:=El.out.1;omega
   have Gm:=Q1b k1 L5 w4;have Cx:=zz Gm;have Dh:=zz L5;clear hkx Gm L5;go_wp2_with fail
   have hc:=Cx.out;with_reducible refine hc.mono ?_
   rintro e w5 ⟨na,nc,rfl,Qbp,hf5,hk5⟩;clear hc Cx
   obtain ⟨a6,c6,w6,hrun,Ib,Qvd,hk6⟩:=Yb w4 w5 (.slice na (Qq k1).length nc) (Qq k1) p Qbp hf5 hk5 pa pc (Qu3.out.kp hk5) (by
    have:=(Zv k1 Dh.out p).2;have:=Fe.out;omega)
   obtain ⟨M,hM⟩: ∃M,M=Qq k1++p:=⟨_,rfl⟩;rw [<-hM] at hrun Ib
   have hen:=N6 w6 a6 c6 M Ib.rd' (by
    rw [hM,List.length_append];have:=(Zv k1 Dh.out p).2;have:=Fe.out;omega)
   rw [<-M0.out] at hrun;have Qo4:=zz hrun;have Qs3:=zz hen;have Fw:=zz hk6;have HM:=zz (show Jt M=Zo k1 p by rw [hM];rfl);clear hM Qbp hf5 hk5 hrun Ib Qvd hk6 hen;go_wp2_with (at_builtin;refine wpList_append_run rfl rfl rfl rfl Qo4.out ?_)
   have hc:=Qs3.out;with_reducible refine hc.mono ?_
   rintro e w8 ⟨fa,fc,rfl,Ql6,hk8,Qoc⟩;clear hc Qs3;obtain ⟨F1,G1,hX1,hF1,hG1,hK1⟩:=Aq.out;have Dz:Kp No w4 w8:=Fw.out.Q0 hk8;have Q2p:=hX1.no Dz;obtain ⟨Qy1,Qxq,Ex,Qb6,Quw,Q74,_⟩:=Q2p.log;have Q2e: ∀W,Kp F1 w8 W->Yl W x r P Qy1 Qxq (st1.Qk.map (·.1)) Ex (st1.synced+1) st1.dead:=λW hW=>Qb6.keep hW (λk hk hf=>Q2p.sep k hf (Q74 k hk));have g0: ∀W,Kp F1 w8 W->W.cell? ⟨x,0,none⟩=some (.pointer (some ⟨r,0,none⟩)):=λW hW=>(Q2e W hW).cells.1 W zK;have g1: ∀W,Kp F1 w8 W->W.cell? ⟨x,1,none⟩=some (.string P):=λW hW=>(Q2e W hW).cells.2.1 W zK;have Qbl:=Q7 Qb6.cell
   have Q78:0<(u8s (Jt M)).length-> ∀k o,fa=some ⟨k,o,none⟩-> ¬F1 k:=λ_ k o ha hf=>by
    have h1:=Qoc k o ha;have h2:=hX1.disk.lt k hf;have h3:=Fw.out.size;omega
   obtain ⟨fl,hfl⟩: ∃fl,fl=(Jt M).length:=⟨_,rfl⟩;rw [<-hfl];have Qeu:=zz (show fl=(Zo k1 p).length by rw [hfl,HM.out])
   have hwr:=λW (hW:Kp No w8 W)=>Ld W r s1 F1 (Q2p.disk.Q9 hW) (X7 P zn) fa fc (Jt M) (Ql6.kp hW) (by
    have:=Zv k1 Dh.out p;have h2:=Fe.out;rw [HM.out];omega) Q78
   rw [<-hfl] at hwr;have De:=zz hwr;have Q2a:=zz (λW=>Kl P (by omega) zn Oq.out W);have Df:=zz (And.intro Q2p (And.intro hF1 (And.intro hG1 hK1)));have Br:=zz Dz;clear Ql6 hk8 Qoc hX1 hF1 hG1 hK1 Dz Q2p Qb6 Quw Q74 Q2e Q78 hfl hwr;go_upto_region 16 with fail
   refine zD F1 [0,0,0,0,0,0,0,0,0,2,0,2,0] [0,1,2,3,4,5,6,7,8,10,9,11,12] ?_;repeat (first|refine zA ?_|refine zB ?_|refine zC ?_)
   refine Q8 rfl rfl (λn2=>?_);have hc:=Q2a.out (w8.drewN n2);go_wp2_with fail
   with_reducible refine hc.mono ?_
   rintro e w9 ⟨rfl,hk9⟩;clear hc;go_wp2_with fail
   have Ia:Kp No w8 w9:=hk9.Qf;refine ⟨Kp.Qx Ia,?_⟩;refine Q8 rfl rfl (λn3=>?_);have hc:=De.out (w9.drewN n3) (Ia.drewN n3);obtain ⟨q,hqe⟩: ∃q,q=Gy s1 (X7 P zn) (Jt M):=⟨_,rfl⟩;have hqc:=Ai s1 (X7 P zn) (Jt M);rw [<-hqe] at hc hqc;have HQ:=zz (show q=Gy s1 (toN P st) (Zo k1 p) by rw [hqe,Hp.out,HM.out]);have A5:=zz Ia;clear hqe hk9 Ia De Q2a;go_wp2_with fail
   with_reducible refine hc.mono ?_
   rintro e w10 ⟨rfl,F10,Q73,Q0b,hK10⟩;clear hc;have N0:Kp F1 w9 w10:=hK10.Qf;have Q76:Ms w10 r x P q.2 st1 F10 G1:=(Df.out.1.no A5.out).Q1w Q73 Q0b N0;obtain ⟨qc,hqe⟩: ∃qc,qc=q.1:=⟨_,rfl⟩;rw [<-hqe] at hqc⊢;have Q2b:=zz hqe;have Qis:=zz Q76;have Dy:Kp F1 w8 w10:=(Kp.Qx A5.out).Q0 N0
   have Ar:=zz (show Je F F10 w/\Je G G1 w/\Kp (V2 F G) w w10 from by
    refine ⟨Df.out.2.1.trans (λk hk=>(Q0b k hk).imp id λh=>Nat.le_trans (Nat.le_trans Br.out.size A5.out.size) h) Df.out.2.2.2.size,Df.out.2.2.1,?_⟩;refine (Df.out.2.2.2.Qr Br.out).trans Dy λi hi hf=>?_;rcases Df.out.2.1 i hf with h1|h1
    ·exact .inl h1
    ·omega)
   have Q6c:=zz Dy;clear Q73 Q0b hK10 N0 Q76 hqe Dy;go_wp2_with fail
   refine ⟨Q6c.out,?_⟩;repeat (first|refine zA ?_|refine zB ?_|refine zC ?_)
   refine Qa (λnq=>?_);clear g0 g1 Qbl;obtain ⟨Hl,L6⟩: ∃W,W=w10.drewN nq:=⟨_,rfl⟩;have Q0e:Kp No w10 Hl:=by rw [L6];exact (Kp.refl No w10).drewN nq
   rw [<-L6];have Bs:=zz (Qis.out.no Q0e);have D5:=zz (show Je F F10 w/\Je G G1 w/\Kp (V2 F G) w Hl from ⟨Ar.out.1,Ar.out.2.1,Ar.out.2.2.Qr Q0e⟩);clear L6 Q0e;by_cases hqz:qc=0
   rotate_left
   ·have e3:(qc==(0:Int))=false:=by rw [beq_eq_false_iff_ne];exact hqz
    have e4:(qc !=(0:Int))=true:=by rw [bne,e3];rfl
    have hfa:=Q05 Hl r x P q.2 st1 F10 G1 Bs.out HST.out.2.2 qc;have hap:=C2 (p:=p) HD.out Fe.out Q2k.out;rw [Q29.out,<-HQ.out,if_neg (by rw [<-Q2b.out];exact hqz),<-Q2b.out] at hap;have Kx:=zz hap;clear hap;go_wp2_with fail
    with_reducible refine hfa.mono ?_
    rintro e w12 ⟨rfl,hsx⟩;have Yf:=zz (show Ym w r x P F G q.2 {st1 with dead:=qc !=6} w12 from Ym.trans ⟨F10,G1,Bs.out,D5.out.1,D5.out.2.1,D5.out.2.2,hsx⟩);clear hfa hsx;go_wp2_with fail
    go_ret2
    rw [Kx.out];exact ⟨rfl,Yf.out⟩
   rotate_right;obtain ⟨J9p,J6p,E9,Fh,Qdp,_⟩:=Yz.start Bs.out.log;obtain ⟨Q2f,Q2g,rfl,_,_⟩:=Fh.c.Qk.rd;obtain ⟨Lk,Ll,rfl,_,_⟩:=Fh.c.Qi.rd;obtain ⟨Ge,Q0d⟩: ∃Ge,Ge=E9.length:=⟨_,rfl⟩
   have Dx:Ge<=1000000:=by
    have h2:=congrArg List.length Qdp;rw [List.length_map,HST.out.1] at h2;have h3:=El.out.1;omega
   have Vc:=zz Fh;have J5b:=zz Qdp;have Hw:=zz Q0d;have An:=zz Dx;clear Fh Qdp Q0d Dx;have Q7f:qc=0:=hqz;rw [Q7f] at Q2b;clear hqc;subst Q7f;obtain ⟨E1,N1⟩: ∃W,W=Hl:=⟨_,rfl⟩
   have D4:Hid (Yz Hl E1 x r P (.slice Q2f (st1.Qk.map (·.1)).length Q2g) (.slice Lk E9.length Ll) (st1.Qk.map (·.1)) E9 (st1.synced+1) st1.dead G1):=by
    rw [N1];exact Vc
   rw [<-N1];clear N1;obtain ⟨J9q,Q7i⟩: ∃v:Value,v=(.slice Q2f (st1.Qk.map (·.1)).length Q2g):=⟨_,rfl⟩;obtain ⟨st2,hst2⟩: ∃l,l=(st1.Qk.map (·.1)):=⟨_,rfl⟩;have B9:Y5 st1 p=_:=A6 (show Jj st1=false by unfold Jj;rw [HST.out.2.1];exact Bq.out) (HST.out.2.1.trans Q4b.out);have Q46:=zz B9;clear B9;have Quc:=zz (show (Y5 st1 p).Qk.map (·.1)=st2 by rw [Q46.out,hst2];simp [HST.out.2.1,Q4b.out]);rw [<-Q7i,<-hst2] at D4;clear Q7i hst2
   all_goals
    have Qkn:Kp G1 Hl E1:=D4.out.kp;have Q2n:=D4.out.c;have Qdu:=Q7 Q2n.cell
    have Qt7:Kp (V2 F G) w E1:=D5.out.2.2.trans (T:=G1) Qkn λi hi hg=>by
     rcases D5.out.2.1 i hg with h1|h1
     ·exact .inr h1
     ·omega
    have Qpu: ∀k,(Value.slice Lk Ge Ll).ownBlock=some k->k≠x/\k<E1.heap.size:=λk hk=>by
     rw [Hw.out] at hk;exact ⟨(Q2n.V4 hk).1,Q2n.Qi.lt k hk⟩
    have e2: ∀W,Kp (λk=>(Value.slice Lk Ge Ll).ownBlock=some k) E1 W->W.cell? ⟨x,2,none⟩=some (.slice Lk Ge Ll):=λW hW=>by
     rw [hW.cell (p:=⟨x,2,none⟩) Qdu (λh=>(Qpu x h).1 rfl),Q4 Q2n.cell,Hw.out];rfl
    have Jb8: ∀W,Kp (λk=>(Value.slice Lk Ge Ll).ownBlock=some k) E1 W->W.frozen? ⟨x,2,none⟩=false:=λW hW=>by
     rw [hW.frozen (p:=⟨x,2,none⟩) Qdu (λh=>(Qpu x h).1 rfl)];exact Qh Q2n.cell 2
    have Qzr:=zz Qt7;have Jdi:=zz Qpu;clear Qt7 Qpu Q2n Qkn;go_upto_region 21 with fail
    refine Jk (Kp (λk=>(Value.slice Lk Ge Ll).ownBlock=some k) E1) [0,0,0,0,0,2,0,2,2,2,0,0,2] [0,1,2,3,4,6,5,7,8,9,10,11] 12 (by kernel_rfl) (by kernel_rfl) (λ_ n h=>h.drewN n) zK ?_;repeat (first|refine zA ?_|refine zB ?_|refine zC ?_)
    refine Q8 rfl rfl (λn5=>?_);go_wp2_with fail
    obtain ⟨Qeo,Cb⟩: ∃W,W=(E1.drewN n5).alloc (.cells #[] 5):=⟨_,rfl⟩;have k15:Kp No E1 Qeo:=by rw [Cb];exact (zK.drewN n5).alloc _
    have Jcu:Own Qeo 5 1 (.slice (some ⟨E1.heap.size,0,none⟩) 0 0) 0 []:=by rw [Cb];exact Own.made (E1.drewN n5) 5 1 #[] 0 0 (Nat.le_refl _) (by simp [maxLen]) (by simp) rfl
    rw [<-Cb];clear Cb;refine ⟨Kp.Qx k15,?_⟩;refine Q8 rfl rfl (λn7=>?_);obtain ⟨ca,cc,Qhc,hrc,hoc,hkc,hfc⟩:=Mu (Qeo.drewN n7) E1.heap.size (Jcu.drewN n7) p pa pc (HP.out _ (Qzr.out.Qr (k15.drewN n7))) (by have:=Fe.out;omega);rw [<-M0.out] at hrc;have k17:Kp No E1 Qhc:=(k15.drewN n7).trans hkc λi hi (e:i=E1.heap.size)=>by omega
    have J15: ∀g,(Value.slice ca p.length cc).ownBlock=some g->E1.heap.size<=g:=λg hg=>by
     rcases hfc g hg with h1|h1
     ·omega
     ·have:=k15.size;have h2:Qeo.heap.size<=g:=h1;omega
    have Q9z:=zz hrc;have J3z:=zz hoc;have J5d:=zz J15;have Qih:=zz k17;clear hrc hoc hkc hfc J15 k15 Jcu k17;refine wpList_append_run rfl rfl rfl rfl Q9z.out (wpList_nil ⟨rfl,Kp.Qx Qih.out,?_⟩);refine Q8 rfl rfl (λn8=>?_);go_wp2_with fail
    obtain ⟨Q67,Cc⟩: ∃W,W=(Qhc.drewN n8).alloc (.cells #[.slice ca pl cc] 42):=⟨_,rfl⟩;have Qk7:Q67.heap[Qhc.heap.size]?=some (.cells #[.slice ca pl cc] 42 (0,0)):=by rw [Cc];exact heap_alloc_new (Qhc.drewN n8) _
    have k18:Kp No Qhc Q67:=by rw [Cc];exact (zK.drewN n8).alloc _
    rw [<-Cc];clear Cc;have Qdx:Kp No E1 Q67:=Qih.out.Q0 k18;refine ⟨Kp.Qx Qdx,?_⟩;refine Q8 rfl rfl (λn9=>?_);have hlr:Yz Hl (Q67.drewN n9) x r P J9q (.slice Lk Ge Ll) st2 E9 (st1.synced+1) st1.dead G1:=by rw [Hw.out];exact D4.out.no (Qdx.drewN n9)
    have hoe:Own (Q67.drewN n9) 42 1 (.slice Lk Ge Ll) Ge (E9.flatMap Iq):=by have:=hlr.c.Qi;rw [<-Hw.out] at this;exact this
    obtain ⟨a9,c9,J3j,hrn,ho',O9,I8⟩:=Oh (T:=187) (E:=42) (sz:=1) (bytes:=24) Tryz.underlying187 Q7m hoe (news:=Iq ⟨ca,cc,p⟩) (Q8y _) rfl (g:=Qhc.heap.size) (cs:= #[.slice ca pl cc]) Qk7 (by rw [M0.out];rfl) (by have:=An.out;omega) (by have:=An.out;omega);have kS:Kp (λk=>(Value.slice Lk Ge Ll).ownBlock=some k) E1 J3j:=(Kp.Qx (Qdx.drewN n9)).Q0 O9;have J5w:=zz hrn;have Qad:=zz ho';have Q49:=zz O9;have Qnv:=zz I8;have Qab:=zz hlr;have Qtt:=zz (k18.drewN n9);clear hrn ho' O9 I8 hlr hoe Qk7 k18 Qdx;refine wpList_append_run rfl rfl rfl rfl J5w.out (wpList_nil ⟨rfl,kS,?_⟩);repeat (first|refine zA ?_|refine zB ?_|refine zC ?_)
    refine Yu (λn11=>?_);refine Q8 rfl rfl (λn12=>?_);obtain ⟨Qcm,Q0l⟩: ∃W,W=(J3j.drewN n11).drewN n12:=⟨_,rfl⟩;have k20:Kp (λk=>(Value.slice Lk Ge Ll).ownBlock=some k) (Q67.drewN n9) Qcm:=by rw [Q0l];exact (Q49.out.drewN n11).drewN n12
    have Q54:Kp (λk=>(Value.slice Lk Ge Ll).ownBlock=some k) E1 Qcm:=by rw [Q0l];exact (kS.drewN n11).drewN n12
    have Ql0:Own Qcm 42 1 (.slice a9 (Ge+1) c9) (Ge+1) (E9.flatMap Iq++Iq ⟨ca,cc,p⟩):=by rw [Q0l];exact Qad.out
    rw [<-Q0l];have Qv8:=e2 Qcm Q54;have Qvb:=Jb8 Qcm Q54;have Qvl:=Q54.lt Qdu
    have hpc:p.length<=cc:=by
     obtain ⟨_,_,cap,hv,h1',_⟩:=J3z.out;injection hv with _ _ e;all_goals omega
    have Ql1:Dg (Q67.drewN n9) ⟨ca,cc,p⟩:=⟨J3z.out.keep Qtt.out λ_ _ x=>x,hpc,by show p.length<=1000000000;have:=Fe.out;omega⟩
    have hnew:=Qab.out.J6o (r:=⟨ca,cc,p⟩) (W':=Qcm) (ev':= .slice a9 (Ge+1) c9) Ql1
     (λg hg=> .inr (by
      have h2:=J5d.out g hg;have h3:=D4.out.kp.size;omega)) k20
     (by rw [List.length_append,List.length_singleton,<-Hw.out,List.flatMap_append,List.flatMap_cons,List.flatMap_nil,List.append_nil];exact Ql0) Qnv.out
    have Qyv:=zz hnew;clear hnew Q0l k20 Q54 Ql0 Ql1 hpc;go_wp2_with fail
    intro nr;obtain ⟨Q68,Qbw⟩: ∃W,W=(Qcm.setCell ⟨x,2,none⟩ (.slice a9 (Ge+1) c9)).drewN nr:=⟨_,rfl⟩;have Qol:=zz (Qyv.out.no (show Kp No _ Q68 from by rw [Qbw];exact (Kp.refl No _).drewN nr));rw [<-Qbw];clear Qbw Qv8 Qvb Qvl kS e2 Jb8;have hap:=C2 (p:=p) HD.out Fe.out Q2k.out;rw [Q29.out,<-HQ.out,if_pos Q2b.out.symm] at hap;have hadd:Y5 st1 p=_:=Q46.out;have hseg:=Quc.out;have Qv1:=Qol.out;rw [<-hseg] at Qv1;obtain ⟨G3,hL3,hG3,hK3⟩:=Qv1.stop rfl
    have hst:(⟨(E9++[(⟨ca,cc,p⟩:Row)]).map Row.data,(Y5 st1 p).Qk,st1.synced,st1.dead⟩:Jf)=Y5 st1 p:=by
     rw [List.map_append,<-J5b.out];rw [hadd];rfl
    rw [hst] at hL3;have J0t:=Bs.out.Q1x hL3 hG3 hK3
    have Yf:=zz (show Qes w r x P F G (Jz P s st p) (.returned (.tuple #[.int .i64 (k1:Int), .int .i64 0])) Q68 from by
     unfold Qes;rw [hap];refine ⟨rfl,F10,G3,J0t,D5.out.1,D5.out.2.1.trans hG3 D5.out.2.2.size,D5.out.2.2.trans (T:=G1) hK3 λi hi hg=>?_⟩;rcases D5.out.2.1 i hg with h1|h1
     ·exact .inr h1
     ·omega)
    clear hap hadd hseg Qv1 hL3 hG3 hK3 hst J0t;go_wp2_with fail
    go_ret2
    exact Yf.out
end Go.Proofs.YtgnkmjeoaoongaaGreatDoor
