/- store -/
import Derived.Test.YtgnkmjeoaoongaaGreatDoorVe4
set_option maxRecDepth 100000
set_option maxHeartbeats 4000000
namespace Go.Proofs.YtgnkmjeoaoongaaGreatDoor
open Go.RowKit Go.Mer
def Q6k (w2:World) (p:Nat):Nat->Prop:=λk=>w2.heap.size<=k/\k≠p
structure Q2c (w w2:World) (p d s r x:Nat) (st:Ja) (ds:Qz) (lg:Jf) (st':Ja) (ds':Qz) (X9:Jf) (B:Nat) (ra:Option Addr) (n rc:Nat) (R:List Qe) (W:World):Prop where
 pair: ∃H1 H2,Qt w2 W p d s r x Kv 0 st ds lg st' ds' X9 B H1 H2/\ ∀g,(Value.slice ra n rc).ownBlock=some g-> ¬H1 g/\ ¬H2 g
 row:Own W 46 9 (.slice ra n rc) n (R.flatMap recC)
 Q8z:R.length=n
 J39: ∀g,(Value.slice ra n rc).ownBlock=some g->w2.heap.size<=g/\g≠p
 vals: ∀y∈R,y.rd w
 kp:Kp No w W
section
variable {w w2 W W':World} {p d s r x B n rc:Nat} {st st':Ja} {ds ds':Qz} {lg X9:Jf} {ra:Option Addr} {R:List Qe}
theorem Q2c.no (h:Q2c w w2 p d s r x st ds lg st' ds' X9 B ra n rc R W) (hk:Kp No W W'):Q2c w w2 p d s r x st ds lg st' ds' X9 B ra n rc R W':=by
 obtain ⟨⟨H1,H2,h1,h2⟩,h3,h4,h5,h6,h7⟩:=h;exact ⟨⟨H1,H2,h1.no hk,h2⟩,h3.keep hk λ_ _ x=>x,h4,h5,h6,h7.Q0 hk⟩
theorem Q2c.cells (h:Q2c w w2 p d s r x st ds lg st' ds' X9 B ra n rc R W):W.cell? ⟨p,1,none⟩=some (.pointer (some ⟨s,0,none⟩))/\W.cell? ⟨p,3,none⟩=some (.pointer (some ⟨x,0,none⟩))/\p<W.heap.size:=by
 obtain ⟨H1,H2,h1,h2⟩:=h.pair;exact ⟨h1.at_ zK 1,h1.at_ zK 3,Q7 h1.cell⟩
theorem Q2c.J3g {H1 H2 Hu:Nat->Prop} {st2:Ja} {ds2:Qz} {Qe1:Jf} {B':Nat} (h:Q2c w w2 p d s r x st ds lg st' ds' X9 B ra n rc R W) (hf: ∀g,(Value.slice ra n rc).ownBlock=some g-> ¬H1 g/\ ¬H2 g) (hw2:w.heap.size<=w2.heap.size) (hn: ∀k,H1 k->w2.heap.size<=k) (hp:Qt w2 W' p d s r x Kv 0 st2 ds2 Qe1 st' ds' X9 B' Hu H2) (hft:Je H1 Hu W) (hk:Kp H1 W W'):
  Q2c w w2 p d s r x st2 ds2 Qe1 st' ds' X9 B' ra n rc R W':=
 ⟨⟨Hu,H2,hp,λg hg=>⟨λhh=>(hft g hh).elim (λh1=>(hf g hg).1 h1) λh1=>by have:=h.row.lt g hg;omega,(hf g hg).2⟩⟩,h.row.keep hk λg hg hh=>(hf g hg).1 hh,h.Q8z,h.J39,h.vals,h.kp.trans hk λi hi hh=>by have:=hn i hh;omega⟩
theorem Q2c.J3h {H1 H2 Q69:Nat->Prop} {st2:Ja} {ds2:Qz} {Qe1:Jf} {B':Nat} (h:Q2c w w2 p d s r x st ds lg st' ds' X9 B ra n rc R W) (hf: ∀g,(Value.slice ra n rc).ownBlock=some g-> ¬H1 g/\ ¬H2 g) (hw2:w.heap.size<=w2.heap.size) (hn: ∀k,H2 k->w2.heap.size<=k) (hp:Qt w2 W' p d s r x Kv 0 st ds lg st2 ds2 Qe1 B' H1 Q69) (hft:Je H2 Q69 W) (hk:Kp H2 W W'):
  Q2c w w2 p d s r x st ds lg st2 ds2 Qe1 B' ra n rc R W':=
 ⟨⟨H1,Q69,hp,λg hg=>⟨(hf g hg).1,λhh=>(hft g hh).elim (λh1=>(hf g hg).2 h1) λh1=>by have:=h.row.lt g hg;omega⟩⟩,h.row.keep hk λg hg hh=>(hf g hg).2 hh,h.Q8z,h.J39,h.vals,h.kp.trans hk λi hi hh=>by have:=hn i hh;omega⟩
end
section
variable {w w2 W W':World} {p d s r x B n rc k:Nat} {st st':Ja} {ds ds':Qz} {lg X9:Jf} {ra:Option Addr} {R:List Qe}
theorem Q2c.cap (h:Q2c w w2 p d s r x st ds lg st' ds' X9 B ra n rc R W):n<=rc:=by
 obtain ⟨_,a9,c9,e9,h9,_⟩:=h.row;injection e9 with _ _ e9;omega
theorem Q2c.put (h:Q2c w w2 p d s r x st ds lg st' ds' X9 B ra n rc R W) (hw2:w.heap.size<=w2.heap.size) (Yo:Pow w) (hg:0<w2.heap.size) (hinv:Inv 0 st) (hh:Bu k Kv ds st lg) (hk:k<=3000) (hQ:(Zj Kv st.Zc).size<=50) (hn:n<=1000000) (hB:B<=900000) {q:Int×Qz×Ja×Jf} (hq:q=J8 Kv 0 ds st lg (R.map Qe.r)):
  Calls Tryz.prog 18 #[.pointer (some ⟨s,0,none⟩), .slice ra n rc] W λe w'=>e= .returned (.int .i64 q.1)/\Q2c w w2 p d s r x q.2.2.1 q.2.1 q.2.2.2 st' ds' X9 (B+64) ra n rc R w'/\Kp (Q6k w2 p) W w':=by
 obtain ⟨H1,H2,hP,hf⟩:=h.pair;have h1:=hP.put (k:=k) hinv hh.fit hk (Yo.keep h.kp) hg hQ (by have:=hh.n;omega) ra rc R (λV hV=>⟨Own.rd' (h.row.keep hV λg hg hh=>(hf g hg).1 hh),λy hy=>Qm.X0 (h.vals y hy) (h.kp.trans hV λi hi hh=>by have:=hP.new.2.1 i hh;omega)⟩) (by rw [h.Q8z];exact h.cap) (by rw [h.Q8z];exact hn) hB (by rw [Ip]);rw [h.Q8z,<-hq] at h1;refine h1.mono ?_;rintro e w' ⟨rfl,Hu,hP',hft,hkk⟩;exact ⟨rfl,h.J3g hf hw2 hP.new.2.1 hP' hft hkk,hkk.mono λi _ hi=>⟨hP.new.2.1 i hi,λe=>hP.p1 (e▸hi)⟩⟩
theorem Q2c.Qx3 (h:Q2c w w2 p d s r x st ds lg st' ds' X9 B ra n rc R W) (hw2:w.heap.size<=w2.heap.size) (hinv:Inv 0 st') (hh:Bu k Kv ds' st' X9) (hk:k<=3000) (hQ:(Zj Kv st'.Zc).size<=50) (hn:n<=1000000) (hB:B<=900000) (hkn:st'.keys.length<=B) {q:Int×Qz×Ja×Jf} (hq:q=J8 Kv 0 ds' st' X9 (R.map Qe.r)):
  Calls Tryz.prog 21 #[.pointer (some ⟨x,0,none⟩), .slice ra n rc] W λe w'=>e= .returned (.int .i64 q.1)/\Q2c w w2 p d s r x st ds lg q.2.2.1 q.2.1 q.2.2.2 (B+64) ra n rc R w'/\Kp (Q6k w2 p) W w':=by
 obtain ⟨H1,H2,hP,hf⟩:=h.pair;have h1:=hP.Qx3 (k:=k) hinv hh hk hQ ra rc R (λV hV=>⟨Own.rd' (h.row.keep hV λg hg hh=>(hf g hg).2 hh),λy hy=>Qm.X0 (h.vals y hy) (h.kp.trans hV λi hi hh=>by have:=hP.new.2.2 i hh;omega)⟩) (by rw [h.Q8z];exact h.cap) (by rw [h.Q8z];exact hn) hB hkn (by rw [Ip]);rw [h.Q8z,<-hq] at h1;refine h1.mono ?_;rintro e w' ⟨rfl,Q69,hP',hft,hkk⟩;exact ⟨rfl,h.J3h hf hw2 hP.new.2.2 hP' hft hkk,hkk.mono λi _ hi=>⟨hP.new.2.2 i hi,λe=>hP.p2 (e▸hi)⟩⟩
end
theorem Gw (w:World) (Yo:Pow w) (a:Option Addr) (cap:Nat) (L:List RowR) (hL:RowsIn w a L) (hc:L.length<=cap) (hn:L.length<=80):
  Calls Tryz.prog 30 #[.slice a L.length cap] w λe w'=> ∃p d s r x H1 H2 st ds lg,e= .returned (.tuple #[.pointer (some ⟨p,0,none⟩), .bool true])/\Qt w w' p d s r x Kv 0 st ds lg st ds lg (128*L.length) H1 H2/\Q2h L.length st ds lg:=by
 obtain ⟨n,Xw⟩: ∃n,n=L.length:=⟨_,rfl⟩;rw [<-Xw] at hc hn⊢;have HN:=zz Xw;have HL:=zz hL;have Dd:=zz Yo;clear hL Xw;go_enter Tryz.func30,Tryz.ntmps30
 go_wp2_with fail
 refine (Iu w 1048576 Yo (by decide)).mono ?_;rintro e w1 ⟨p,d,s,r,x,H1,H2,rfl,hP⟩;have c1:w1.cell? ⟨p,1,none⟩=some (.pointer (some ⟨s,0,none⟩)):=hP.at_ zK 1;have lp:=Q7 hP.cell;have Qd5:=zz (show ∃H1 H2,Qt w w1 p d s r x Kv 0 Er ⟨1048576,none,[]⟩ st0 Er ⟨1048576,none,[]⟩ st0 (128*0) H1 H2 from ⟨H1,H2,hP⟩);clear hP Yo;go_wp2_with fail
 go_loopw [6] (λi wr=> ∃(j:Nat) (st:Ja) (ds:Qz) (lg:Jf),j<=n/\i= .int .i64 (j:Int)/\Hid (Q2h j st ds lg)/\Hid (∃H1 H2,Qt w wr p d s r x Kv 0 st ds lg st ds lg (128*j) H1 H2)) (λi _=>n-(intOf i).toNat)
 case atStart=>exact ⟨0,Er,⟨1048576,none,[]⟩,st0,Nat.zero_le _,rfl,zz Q2h.emp,Qd5⟩
 case round=>
  clear Qd5 c1 lp;obtain ⟨j,st,ds,lg,hj,rfl,HF,HP⟩:=hrel;rcases Nat.lt_or_ge j n with hlt|hge
  ·have Lm:j<L.length:=by have:=HN.out;omega
   obtain ⟨g,off,rfl,hgl,hgr⟩:=row_range HL.out.1 Lm;obtain ⟨y,hy⟩: ∃y,y=L[j]:=⟨_,rfl⟩;have hya:=HL.out.2 _ (List.getElem_mem Lm);rw [<-hy] at hgr hya;have hrow:RowsIn w (some ⟨g,off+j*6,none⟩) [y]:=⟨λ_=>⟨g,off+j*6,rfl,hgl,Nat.le_refl _,λi u hu=>hgr w zK i u hu⟩,λz hz=>by rw [List.mem_singleton.1 hz];exact hya⟩;obtain ⟨H1,H2,hP⟩:=HP.out;obtain ⟨ry,la,lc,cs,ka,kc,K,F,G,Qxv,_⟩:=hP.ref;have hfil:=Q4l HF.out (by omega)
   have Jaf:=zz (show ∀q,Calls Tryz.prog 16 #[.pointer (some ⟨x,0,none⟩), .slice (some ⟨g,off+j*6,none⟩) 1 (cap-j)] (wr.drewN q) (Qd7 w (wr.drewN q) st.of [y]) from λq=>
    Qh3 (Qxv.st.Q9 ((Kp.refl No wr).drewN q)) (Qm9 hfil.inv) (some ⟨g,off+j*6,none⟩) (cap-j) [y] hrow (hP.kp.drewN q) (by simp))
   have c3: ∀W,Kp No wr W->W.cell? ⟨p,3,none⟩=some (.pointer (some ⟨x,0,none⟩)):=λW hW=>hP.at_ hW 3;have lp:=Q7 hP.cell;have K7:=zz hfil;have Qz6:=zz hP;have hj1:(j:Int)+1<=(cap:Int):=by omega
   have hj0:(0:Int)<=(j:Int)+1:=by omega
   have hcj: ¬cap=j:=by omega
   clear Lm hgl hgr hy hya hrow hP Qxv hfil HP;go_upto_region 7 with fail
   refine zD No [0,0,0,0,0,0,0,0,0,2,0] [0,1,2,3,4,5,6,7,8,9,10] ?_;repeat (first|refine zA ?_|refine zB ?_|refine zC ?_)
   refine Q8 rfl rfl (λn1=>?_);go_wp2_with fail
   (try simp only [Option.map_some,Z8])
   refine (Jaf.out n1).mono ?_;intro e w4 hq;unfold Qd7 at hq;obtain ⟨ra,rc,R,rfl,hown,heq,hrd,hfr,k4⟩:=hq
   have Qbc:R.length=1:=by
    have:=congrArg List.length heq;rw [List.length_map,Oe,List.length_map] at this;exact this
   rw [Qbc] at hown hfr⊢;have Gz:Kp No wr w4:=k4.Qf;have HR:=zz (And.intro Qbc (And.intro heq (And.intro (show ∀y∈R,y.rd w from hrd) (And.intro hown (And.intro (show ∀g,(Value.slice ra 1 rc).ownBlock=some g->wr.heap.size<=g from hfr) Gz)))));clear hown heq hrd hfr k4 Jaf Qbc;go_wp2_with fail
   (try refine ⟨Gz,?_⟩)
   repeat (first|refine zA ?_|refine zB ?_|refine zC ?_)
   refine Qa (λnq=>?_);obtain ⟨w5,hw5⟩: ∃W,W=w4.drewN nq:=⟨_,rfl⟩;have Q66:Kp No w4 w5:=by rw [hw5];exact (Kp.refl No w4).drewN nq
   rw [<-hw5];have Qbb:=Qz6.out.no (Gz.Q0 Q66)
   have Ky:=zz (show Q2c w w p d s r x st ds lg st ds lg (128*j) ra 1 rc R w5 from
    ⟨⟨H1,H2,Qbb,λg hg=>⟨λhh=>by have:=Qz6.out.prog.lt g hh;have:=HR.out.2.2.2.2.1 g hg;omega,λhh=>by have:=Qz6.out.ref.lt g hh;have:=HR.out.2.2.2.2.1 g hg;omega⟩⟩,HR.out.2.2.2.1.keep Q66 (λ_ _ x=>x),HR.out.1,λg hg=>⟨by have:=HR.out.2.2.2.2.1 g hg;have:=Qz6.out.kp.size;omega,λe=>by have:=HR.out.2.2.2.2.1 g hg;have:=Q7 Qz6.out.cell;omega⟩,HR.out.2.2.1,Qbb.kp⟩)
   have hcs:=Ky.out.cells;have hlp:=hcs.2.2;obtain ⟨q1,hq1⟩: ∃q,q=J8 Kv 0 ds st lg (R.map Qe.r):=⟨_,rfl⟩;have hA: ∀q,Q2c w w p d s r x st ds lg st ds lg (128*j) ra 1 rc R (w5.drewN q):=λq=>Ky.out.no ((Kp.refl No w5).drewN q);have hQ:(Zj Kv st.Zc).size<=50:=by rw [K7.out.Zc];show (Zj Kv 0).size<=50;rw [Kj];decide
   have hput: ∀q,Calls Tryz.prog 18 #[.pointer (some ⟨s,0,none⟩), .slice ra 1 rc] (w5.drewN q) λe w'=>e= .returned (.int .i64 q1.1)/\Q2c w w p d s r x q1.2.2.1 q1.2.1 q1.2.2.2 st ds lg (128*j+64) ra 1 rc R w'/\Kp (Q6k w p) (w5.drewN q) w':=λq=>
    (hA q).put (k:=j) (Nat.le_refl _) Dd.out Dd.out.lt K7.out.inv K7.out.hold (by omega) hQ (by decide) (by omega) hq1
   have HA:=zz hput;have Qs7:=zz hq1;have Je8:=zz hQ;have a1: ∀W,Kp (Q6k w p) w5 W->W.cell? ⟨p,1,none⟩=some (.pointer (some ⟨s,0,none⟩)):=λW hW=>(hW.cell (p:=⟨p,1,none⟩) hlp λe=>e.2 rfl).trans hcs.1;have a3: ∀W,Kp (Q6k w p) w5 W->W.cell? ⟨p,3,none⟩=some (.pointer (some ⟨x,0,none⟩)):=λW hW=>(hW.cell (p:=⟨p,3,none⟩) hlp λe=>e.2 rfl).trans hcs.2.1;clear hA hput hq1 hcs hQ hw5 Gz Q66 Qbb c3 lp hj1 hj0 hcj;go_upto_region 8 with fail
   refine zD (Q6k w p) [0,0,0,0,0,2,0,0,0,0,0,2,0] [0,1,2,3,4,6,7,8,9,10,5,11,12] ?_;repeat (first|refine zA ?_|refine zB ?_|refine zC ?_)
   refine Q8 rfl rfl (λn1=>?_);go_wp2_with fail
   refine (HA.out n1).mono ?_;rintro e w6 ⟨rfl,Jbr,hk6⟩;have hS6:Kp (Q6k w p) w5 w6:=hk6.Qf;have Qxh:=zz Jbr;clear Jbr hk6 HA;go_wp2_with fail
   (try refine ⟨hS6,?_⟩)
   refine Q8 rfl rfl (λn2=>?_);obtain ⟨J9s,Qbx⟩: ∃W,W=World.drewN w6 n2:=⟨_,rfl⟩;have J8x:Kp No w6 J9s:=by rw [Qbx];exact (Kp.refl No w6).drewN n2
   have Jat:=zz ((Qxh.out.no J8x).Qx3 (k:=j) (Nat.le_refl _) K7.out.inv K7.out.hold (by omega) Je8.out (by decide) (by omega) (by have:=K7.out.keys;omega) Qs7.out);have J42:=zz (hS6.Qr J8x);rw [<-Qbx];clear Qbx J8x hS6;go_wp2_with fail
   refine Jat.out.mono ?_;rintro e w7 ⟨rfl,Jbs,Ca⟩;have hS7:Kp (Q6k w p) w5 w7:=J42.out.Q0 Ca;have Q9y:=zz Jbs;clear Jbs Ca Jat;go_wp2_with fail
   (try refine ⟨hS7,?_⟩)
   repeat (first|refine zA ?_|refine zB ?_|refine zC ?_)
   refine Qa (λnq=>?_)
   have Jdn:=zz (show Q2h (j+1) q1.2.2.1 q1.2.1 q1.2.2.2 from by
    rw [Qs7.out,HR.out.2.1];exact Q2h.put HF.out y.r)
   have Je5:=zz (show ∃H1 H2,Qt w (w7.drewN nq) p d s r x Kv 0 q1.2.2.1 q1.2.1 q1.2.2.2 q1.2.2.1 q1.2.1 q1.2.2.2 (128*(j+1)) H1 H2 from by
    obtain ⟨J1,J2,hh,_⟩:=Q9y.out.pair;have e:128*j+64+64=128*(j+1):=by omega
    rw [e] at hh;exact ⟨J1,J2,hh.no ((Kp.refl No w7).drewN nq)⟩)
   clear hS7 J42 Qxh Q9y a1 a3 hlp Ky HR;go_wp2_with fail
   go_roundw
   case rel=>exact ⟨j+1,q1.2.2.1,q1.2.1,q1.2.2.2,hlt,by go_num,Jdn,Je5⟩
   case measure=>simp [intOf];omega
  ·obtain rfl:j=n:=by omega
   clear hge;go_wp2_with fail
   go_ret2
   obtain ⟨H1,H2,hP⟩:=HP.out;exact ⟨p,d,s,r,x,H1,H2,st,ds,lg,rfl,hP,HF.out⟩
end Go.Proofs.YtgnkmjeoaoongaaGreatDoor
