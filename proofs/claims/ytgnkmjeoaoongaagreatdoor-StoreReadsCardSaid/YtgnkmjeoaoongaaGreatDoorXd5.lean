/-
  STrim, SXPlace, SXTrim, SXNum.
-/
import Derived.Test.YtgnkmjeoaoongaaGreatDoorXd0
set_option maxRecDepth 100000
set_option maxHeartbeats 2000000
namespace Go.Proofs.YtgnkmjeoaoongaaGreatDoor
open Go.RowKit Go.Mer
theorem Nv (w:World) (ad:Addr) (cap:Nat) (R:List Qd) (hR:Rd w w.heap.size (some ad) (R.flatMap Qg)) (hn:R.length<=1000000):
  Calls Tryz.prog 203 #[.slice (some ad) R.length cap] w λe w'=> ∃a' c',e= .returned (.slice a' R.length c')/\Qq 44 6 Qg w w' (.slice a' R.length c') R.length R:=by
 have h0:=Qq.made (E:=44) (sz:=6) (f:=Qg) (Kp.refl No w);obtain ⟨a',c',W',hrun,hrel,_⟩:=Qq.app (P:=Tryz.prog) (T:=68) Tryz.underlying68 Vo Yg h0 R (Yf (f:=Qg) (c:=cap) J8 (Rd.kp hR ((Kp.refl No w).alloc _))) rfl (by unfold maxLen;omega) (by omega);rw [Nat.zero_add,List.nil_append] at hrel;rw [Nat.zero_add] at hrun;have HX:=zz hrun;have Vf:=zz hrel;obtain ⟨n,hnR⟩: ∃n,n=R.length:=⟨_,rfl⟩;rw [<-hnR] at HX Vf⊢;have qn: ∀W,(binOp .eql 68 (.slice (some ad) n cap) (.slice none 0 0)).run Tryz.prog W= .ok (.bool false) W:=λW=>Lib.run_eql_slice_nil W 68 44 (some ad) _ _ 0 0 Tryz.underlying68;clear hrun hrel h0 hR hnR;go_enter Tryz.func203,Tryz.ntmps203
 go_wp2_with (at_builtin;refine wpList_append_run rfl rfl rfl rfl HX.out ?_;clear HX)
 go_ret
 exact ⟨a',c',rfl,Vf.out⟩
structure O7 (t:TypeId) (c c':Ja) (m n:Int) (w w':World):Prop where
 b:c'.b=c.b
 vs:c'.vs=Zl c.vs m n
 ok:Y7 t w' c'
 kp:Kp (Mer.One c.b) w w'
 row:c'.row.ownBlock=c.row.ownBlock\/ ∀g,c'.row.ownBlock=some g->w.heap.size<=g
 vals: ∀y∈c'.R,y∈c.R
theorem O7.same {t:TypeId} {c:Ja} {m n:Int} {w w':World} (hc:Y7 t w c) (hk:Kp No w w') (h0:Jb c.vs m n=0):O7 t c c m n w w':=
 ⟨rfl,by unfold Zl;rw [h0,List.drop_zero],hc.Q5 hk,Kp.of_no hk, .inl rfl,λ_ h=>h⟩
theorem As {l:List Qf} {m c:Int} (h:Lw l m c=none):Jb l m c=0:=by unfold Jb;rw [h]
theorem Au {l:List Qf} {m c:Int} {v:Qf} {u:Nat} (h:Lw l m c=some v) (hu:Z0 l m c=u+1):Jb l m c=if Vr v m c=true then u else u+1:=by
 unfold Jb;rw [h,hu];rfl
theorem Qbg (w:World) (k0:Ja) (m c:Int) (hm:m<=9223372036854775807) (hc:Y7 203 w k0) (hn:k0.R.length<=1000000) (hvs: ∀v∈k0.vs,Zx v=true):
  Calls Tryz.prog 129 #[.pointer (some ⟨k0.b,0,none⟩),Xo m c] w λe w'=>e= .returned (.int .i64 (Jb k0.vs m c:Nat))/\ ∃c',O7 203 k0 c' m c w w':=by
 have hup:=λW (h:Kp No w W)=>Lx W k0 m c (hc.Q5 h) hn;obtain ⟨w1,hw1⟩: ∃W,W=w.alloc (.cells #[.int .i64 m, .int .i64 c] 25):=⟨_,rfl⟩;have k1:Kp No w w1:=by rw [hw1];exact zK.alloc _
 have b1:w1.heap[w.heap.size]?=some (.cells #[.int .i64 m, .int .i64 c] 25 (0,0)):=by rw [hw1];exact heap_alloc_new w _
 have c0:w1.cell? ⟨w.heap.size,0,none⟩=some (.int .i64 m):=Q0 b1 0;have c1:w1.cell? ⟨w.heap.size,1,none⟩=some (.int .i64 c):=Q0 b1 1;have hl1:=Q3 b1;have U8:=zz k1;have HB1:=zz b1;have HW1:=zz hw1;cases hat:Lw k0.vs m c with
 |none=>
  have hu0:=Gc.1 hat;rw [hu0] at hup;have H:=zz (hup w1 k1);have HT:=zz (As hat);have HC:=zz hc;obtain ⟨cb,hcb⟩: ∃cb,cb=k0.b:=⟨_,rfl⟩;rw [<-hcb] at H⊢;clear hup k1 b1 hw1 hat hu0 hc hcb;go_enter Tryz.func129,Tryz.ntmps129
  go_upto_region 1 with fail
  rw [<-HW1.out];go_wp2_with fail
  refine H.out.mono ?_;rintro e w3 ⟨rfl,k3⟩;have Zj:=zz (U8.out.trans_same k3);clear k3 c0 c1 hl1;go_upto_region 2 with fail
  refine zD No [0,0,0,0,0,0,0,0,0,0,0,0,2,0] [0,1,2,3,4,5,6,7,8,9,10,11,12,13] ?_;repeat (first|refine zA ?_|refine zB ?_|refine zC ?_)
  refine Z3 rfl rfl (by rfl) rfl (λq=>⟨zK.drewN q,?_⟩);repeat (first|refine zA ?_|refine zB ?_|refine zC ?_)
  refine Q6 (λnq=>?_);go_wp2_with fail
  go_ret
  rw [HT.out];exact ⟨rfl,k0,O7.same HC.out (Zj.out.drewN _) HT.out⟩
 |some v=>
  obtain ⟨u,hu1,hu2⟩:=Gd hat;rw [hu1] at hup;have htn:=Au hat hu1;have hvv:Zx v=true:=hvs v (List.mem_of_getElem? hu2);obtain ⟨cb,ra,rc,R⟩:=k0;obtain ⟨n,hnR⟩: ∃n,n=R.length:=⟨_,rfl⟩;have hrow:(⟨cb,ra,rc,R⟩:Ja).row= .slice ra n rc:=by unfold Ja.row;rw [hnR]
  have hR:Rd w w.heap.size ra (R.flatMap Qg):=by have:=Own.rd' (a:=ra) (cap:=rc) (m:=R.length) hc.own;exact this
  have hu2:(R.map Qd.v)[u]?=some v:=hu2;rw [List.getElem?_map] at hu2;obtain ⟨x,hx,hxv⟩:=Option.map_eq_some_iff.1 hu2;have Qh4:=(List.getElem?_eq_some_iff.1 hx).1;have hxe:R[u]=x:=(List.getElem?_eq_some_iff.1 hx).2;obtain ⟨g,off,rfl,hgl,hgr⟩:=Yh hR Qh4;rw [hxe] at hgr;have hun:u<n:=by omega
  have hnn:n<=1000000:=by simp only at hn;omega
  have hrc:n<=rc:=by
   obtain ⟨_,a,cap,e,h1,_⟩:=hc.own;unfold Ja.row at e;injection e with _ _ e3;have e3:rc=cap:=e3;simp only at h1
   omega
  have hcb:=Q3 hc.cell;simp only at hcb htn
  have hw3:((u+1:Nat):Int)-1=(u:Int):=by push_cast;omega
  have hw4:decide ((0:Int)<((u+1:Nat):Int))=true:=decide_eq_true (by omega);obtain ⟨u1,Qh3⟩: ∃u1,u1=u+1:=⟨_,rfl⟩;rw [<-Qh3] at hw3 hw4 hup htn;have hub:u1<=1000000:=by omega
  have Qrb:1<=u1:=by omega
  have hw5:decide (0<u1)=true:=decide_eq_true Qrb;have J21:u1<=n:=by omega
  have H:=zz (hup w1 k1);have HC:=zz hc;have V0:=zz hrow;have Q6w:=zz hgr;have HN:=zz hnR;have Qpi:=zz (And.intro hxv hvv);clear hup k1 b1 hw1 hc hrow hgr hxv hvv hnR hR hu2 hx hxe Qh4 hu1 hat Qh3 hvs;go_enter Tryz.func129,Tryz.ntmps129
  go_upto_region 1 with fail
  rw [<-HW1.out];go_wp2_with fail
  refine H.out.mono ?_;rintro e w3 ⟨rfl,k3⟩;have HB3:=zz (k3.get HB1.out λx=>x);have Zj:=zz (U8.out.trans_same k3);clear k3 c0 c1 hl1;have hl3:=Q3 HB3.out;have hcb3:=Zj.out.lt hcb;have hg3:=Zj.out.lt hgl
  have f0: ∀W,Kp No w3 W->W.cell? ⟨cb,0,none⟩=some (.slice (some ⟨g,off,none⟩) n rc):=λW hW=>by
   have:=HC.out.cells.1 W (Zj.out.trans_same hW);rw [V0.out] at this;exact this
  have Qsg:=zz (show ∀W,Kp No w3 W->W.rangeAt w.heap.size 0 [.int .i64 m, .int .i64 c] from λW hW=>by have:=Qb (hW.get HB3.out λx=>x) 0 2;exact this);have Qk3:=zz (λW=>Q0x x (by rw [Qpi.out.1];exact Qpi.out.2) m c hm W);go_upto_region 2 with fail
  refine zD No [0,0,0,0,0,0,0,0,0,0,0,0,2,0] [0,1,2,3,4,5,6,7,8,9,10,11,12,13] ?_;repeat (first|refine zA ?_|refine zB ?_|refine zC ?_)
  apply Q8 rfl rfl rfl
  ·intro W hW;exact Q9 44 _ rfl g (off+u*6) rfl (Qg x) _ (Q6w.out W (Zj.out.trans_same hW)) Tryz.underlying44 rfl (by kernel_rfl)
  ·(focus (go_simp;rfl))
  apply Q8 rfl rfl rfl
  ·intro W hW;exact Q9 25 _ rfl w.heap.size 0 rfl [.int .i64 m, .int .i64 c] _ (Qsg.out W hW) Tryz.underlying25 rfl (by kernel_rfl)
  ·(focus (go_simp;rfl))
  refine Q4 rfl rfl (λq=>?_);go_wp2_with fail
  refine (Qk3.out _).mono ?_;rintro e w4 ⟨rfl,k4⟩;have Q0k:Kp No w3 w4:=k4.of_drewN;rw [Qpi.out.1];cases hse:Vr v m c with
  |true=>
   rw [hse,if_pos rfl] at htn;go_wp2_with fail
   (try refine ⟨Q0k,?_⟩)
   repeat (first|refine zA ?_|refine zB ?_|refine zC ?_)
   refine Q6 (λnq=>?_);obtain ⟨wx,hwx⟩: ∃W,W=w4.drewN nq:=⟨_,rfl⟩;have Xq:=zz (show Kp No w wx by rw [hwx];exact (Zj.out.trans_same Q0k).drewN nq);have fx:wx.cell? ⟨cb,0,none⟩=some (.slice (some ⟨g,off,none⟩) n rc):=f0 wx (by rw [hwx];exact Q0k.drewN nq);have It:=zz (show Jb (R.map Qd.v) m c=u from htn);have Qqg:=Xq.out.lt hcb;rw [<-hwx];clear hwx k4 Q0k htn hse f0 hcb3 hl3 hg3;rcases Nat.eq_zero_or_pos u with hu0|hu0
   ·have hd0:decide ((0:Int)<(u:Int))=false:=decide_eq_false (by omega);have Qvg:decide (0<u)=false:=decide_eq_false (by omega);have J7c:=zz hu0;clear hu0;go_wp2_with fail
    go_ret
    refine ⟨by rw [show (⟨cb,some ⟨g,off,none⟩,rc,R⟩:Ja).vs=R.map Qd.v from rfl,It.out];rfl,_,O7.same HC.out Xq.out (by rw [show (⟨cb,some ⟨g,off,none⟩,rc,R⟩:Ja).vs=R.map Qd.v from rfl,It.out,J7c.out])⟩
   ·have hd0:decide ((0:Int)<(u:Int))=true:=decide_eq_true (by omega);have Qvg:decide (0<u)=true:=decide_eq_true hu0;obtain ⟨j,hj⟩: ∃j,j=u:=⟨_,rfl⟩;rw [<-hj] at It hd0 Qvg hu0 hun hw3;have hjn:j<=n:=by omega
    clear hj;by_cases Qwq:rc=j
    ·omega
    ·skip
     go_upto_region 5 with fail
     have hrs:Rd wx wx.heap.size (some ⟨g,off+j*6,none⟩) ((R.drop j).flatMap Qg):=by
      have Qdv:Rd wx wx.heap.size (some ⟨g,off,none⟩) (R.flatMap Qg):=Rd.kp (by have:=Own.rd' (a:=some ⟨g,off,none⟩) (m:=R.length) HC.out.own;exact this) Xq.out;have h2:=Qdv.drop (j*6);rw [Yn Qg 6 J8] at h2;simpa [Option.map,Jq] using h2
     have hdl:(R.drop j).length=n-j:=by have:=HN.out;rw [List.length_drop];omega
     have hcl:=Nv wx ⟨g,off+j*6,none⟩ (rc-j) (R.drop j) hrs (by omega);rw [hdl] at hcl;have Q3g:=zz hcl;have Uv:=zz hdl;clear hrs hcl hdl;go_wp2_with fail
     refine Q3g.out.mono ?_;rintro e wy ⟨a',c',rfl,hrel⟩;have hky:=hrel.2.2.2
     have fy:wy.cell? ⟨cb,0,none⟩=some (.slice (some ⟨g,off,none⟩) n rc):=by
      have:=HC.out.cells.1 wy (Xq.out.trans_same hky);rw [V0.out] at this;exact this
     have Qup:wy.frozen? ⟨cb,0,none⟩=false:=HC.out.cells.2 wy (Xq.out.trans_same hky);have Qg9:=(Xq.out.trans_same hky).lt hcb;have Vf:=zz hrel;have Cl:=zz hky;clear hrel hky;go_wp2_with fail
     go_ret
     have hcy:wy.heap[cb]?=some (.cells #[.slice (some ⟨g,off,none⟩) n rc] 203 (0,0)):=by
      have h1:=HC.out.cell;rw [V0.out] at h1;exact Cl.out.get (Xq.out.get h1 λx=>x) λx=>x
     have kz:Kp (Mer.One cb) wy (wy.setCell ⟨cb,0,none⟩ (.slice a' (n-j) c')):=(Kp.refl (Mer.One cb) _).setCell (p:=⟨cb,0,none⟩) (.inl (show Mer.One cb cb from rfl)) _;have hR':R.drop (Jb (R.map Qd.v) m c)=R.drop j:=by rw [It.out]
     refine ⟨by show _=Ending.returned (.int .i64 ((Jb (R.map Qd.v) m c:Nat):Int));rw [It.out];rfl,⟨cb,a',c',R.drop j⟩,rfl,?_,⟨?_,?_,?_⟩,?_,?_,?_⟩
     ·show (R.drop j).map Qd.v=(R.map Qd.v).drop (Jb (R.map Qd.v) m c)
      rw [It.out,List.map_drop]
     ·have:=Qh hcy 0 (.slice a' (n-j) c');unfold Ja.row;simp only
      rw [Uv.out];simpa using this
     ·unfold Ja.row;simp only
      rw [Uv.out]
      exact Vf.out.2.1.keep kz λgg hg e=>by
       have e:gg=cb:=e;have h1:=Vf.out.2.2.1 gg hg;have h2:=Xq.out.lt hcb;omega
     ·intro z hz
      exact ((HC.out.vals z (List.mem_of_mem_drop hz)).keep (Xq.out.trans_same Cl.out) λ_ _ x=>x).apart kz λgg hg cur hcur=>by
       have e:gg=cb:=hg;rw [e,hcy] at hcur;injection hcur with hcur;injection hcur with _ ht;exact absurd ht (by decide)
     ·exact ((Xq.out.trans_same Cl.out).of_no).trans_same kz
     ·right
      intro gg hg;have hg:(Value.slice a' (R.drop j).length c').ownBlock=some gg:=hg;rw [Uv.out] at hg;have h1:=Vf.out.2.2.1 gg hg;have h2:=Xq.out.size;omega
     ·exact λz hz=>List.mem_of_mem_drop hz
  |false=>
   rw [hse,if_neg (by decide)] at htn;go_wp2_with fail
   (try refine ⟨Q0k,?_⟩)
   repeat (first|refine zA ?_|refine zB ?_|refine zC ?_)
   refine Q6 (λnq=>?_);obtain ⟨wx,hwx⟩: ∃W,W=w4.drewN nq:=⟨_,rfl⟩;have Xq:=zz (show Kp No w wx by rw [hwx];exact (Zj.out.trans_same Q0k).drewN nq);have fx:wx.cell? ⟨cb,0,none⟩=some (.slice (some ⟨g,off,none⟩) n rc):=f0 wx (by rw [hwx];exact Q0k.drewN nq);have It:=zz (show Jb (R.map Qd.v) m c=u1 from htn);have Qqg:=Xq.out.lt hcb;rw [<-hwx];clear hwx k4 Q0k htn hse f0 hcb3 hl3 hg3;obtain ⟨j,hj⟩: ∃j,j=u1:=⟨_,rfl⟩;rw [<-hj] at It hw4 Qrb J21 hw3 hw5;rw [<-hj];clear hj;by_cases Qwq:rc=j
   ·have hjr:=Qwq.symm;subst hjr;go_upto_region 5 with fail
    have hrs:Rd wx wx.heap.size (some ⟨g,off,none⟩) ((R.drop j).flatMap Qg):=by
     have Qdv:Rd wx wx.heap.size (some ⟨g,off,none⟩) (R.flatMap Qg):=Rd.kp (by have:=Own.rd' (a:=some ⟨g,off,none⟩) (m:=R.length) HC.out.own;exact this) Xq.out;have h1:R.drop j=[]:=List.drop_of_length_le (by have:=HN.out;omega);rw [h1];exact Rd.nil _ _ _
    have hdl:(R.drop j).length=0:=by have:=HN.out;rw [List.length_drop];omega
    have hcl:=Nv wx ⟨g,off,none⟩ (0) (R.drop j) hrs (by omega);rw [hdl] at hcl;have Q3g:=zz hcl;have Uv:=zz hdl;clear hrs hcl hdl;go_wp2_with fail
    refine Q3g.out.mono ?_;rintro e wy ⟨a',c',rfl,hrel⟩;have hky:=hrel.2.2.2
    have fy:wy.cell? ⟨cb,0,none⟩=some (.slice (some ⟨g,off,none⟩) n j):=by
     have:=HC.out.cells.1 wy (Xq.out.trans_same hky);rw [V0.out] at this;exact this
    have Qup:wy.frozen? ⟨cb,0,none⟩=false:=HC.out.cells.2 wy (Xq.out.trans_same hky);have Qg9:=(Xq.out.trans_same hky).lt hcb;have Vf:=zz hrel;have Cl:=zz hky;clear hrel hky;go_wp2_with fail
    go_ret
    have hcy:wy.heap[cb]?=some (.cells #[.slice (some ⟨g,off,none⟩) n j] 203 (0,0)):=by
     have h1:=HC.out.cell;rw [V0.out] at h1;exact Cl.out.get (Xq.out.get h1 λx=>x) λx=>x
    have kz:Kp (Mer.One cb) wy (wy.setCell ⟨cb,0,none⟩ (.slice a' (0) c')):=(Kp.refl (Mer.One cb) _).setCell (p:=⟨cb,0,none⟩) (.inl (show Mer.One cb cb from rfl)) _;have hR':R.drop (Jb (R.map Qd.v) m c)=R.drop j:=by rw [It.out]
    refine ⟨by show _=Ending.returned (.int .i64 ((Jb (R.map Qd.v) m c:Nat):Int));rw [It.out];rfl,⟨cb,a',c',R.drop j⟩,rfl,?_,⟨?_,?_,?_⟩,?_,?_,?_⟩
    ·show (R.drop j).map Qd.v=(R.map Qd.v).drop (Jb (R.map Qd.v) m c)
     rw [It.out,List.map_drop]
    ·have:=Qh hcy 0 (.slice a' (0) c');unfold Ja.row;simp only
     rw [Uv.out];simpa using this
    ·unfold Ja.row;simp only
     rw [Uv.out]
     exact Vf.out.2.1.keep kz λgg hg e=>by
      have e:gg=cb:=e;have h1:=Vf.out.2.2.1 gg hg;have h2:=Xq.out.lt hcb;omega
    ·intro z hz
     exact ((HC.out.vals z (List.mem_of_mem_drop hz)).keep (Xq.out.trans_same Cl.out) λ_ _ x=>x).apart kz λgg hg cur hcur=>by
      have e:gg=cb:=hg;rw [e,hcy] at hcur;injection hcur with hcur;injection hcur with _ ht;exact absurd ht (by decide)
    ·exact ((Xq.out.trans_same Cl.out).of_no).trans_same kz
    ·right
     intro gg hg;have hg:(Value.slice a' (R.drop j).length c').ownBlock=some gg:=hg;rw [Uv.out] at hg;have h1:=Vf.out.2.2.1 gg hg;have h2:=Xq.out.size;omega
    ·exact λz hz=>List.mem_of_mem_drop hz
   ·skip
    go_upto_region 5 with fail
    have hrs:Rd wx wx.heap.size (some ⟨g,off+j*6,none⟩) ((R.drop j).flatMap Qg):=by
     have Qdv:Rd wx wx.heap.size (some ⟨g,off,none⟩) (R.flatMap Qg):=Rd.kp (by have:=Own.rd' (a:=some ⟨g,off,none⟩) (m:=R.length) HC.out.own;exact this) Xq.out;have h2:=Qdv.drop (j*6);rw [Yn Qg 6 J8] at h2;simpa [Option.map,Jq] using h2
    have hdl:(R.drop j).length=n-j:=by have:=HN.out;rw [List.length_drop];omega
    have hcl:=Nv wx ⟨g,off+j*6,none⟩ (rc-j) (R.drop j) hrs (by omega);rw [hdl] at hcl;have Q3g:=zz hcl;have Uv:=zz hdl;clear hrs hcl hdl;go_wp2_with fail
    refine Q3g.out.mono ?_;rintro e wy ⟨a',c',rfl,hrel⟩;have hky:=hrel.2.2.2
    have fy:wy.cell? ⟨cb,0,none⟩=some (.slice (some ⟨g,off,none⟩) n rc):=by
     have:=HC.out.cells.1 wy (Xq.out.trans_same hky);rw [V0.out] at this;exact this
    have Qup:wy.frozen? ⟨cb,0,none⟩=false:=HC.out.cells.2 wy (Xq.out.trans_same hky);have Qg9:=(Xq.out.trans_same hky).lt hcb;have Vf:=zz hrel;have Cl:=zz hky;clear hrel hky;go_wp2_with fail
    go_ret
    have hcy:wy.heap[cb]?=some (.cells #[.slice (some ⟨g,off,none⟩) n rc] 203 (0,0)):=by
     have h1:=HC.out.cell;rw [V0.out] at h1;exact Cl.out.get (Xq.out.get h1 λx=>x) λx=>x
    have kz:Kp (Mer.One cb) wy (wy.setCell ⟨cb,0,none⟩ (.slice a' (n-j) c')):=(Kp.refl (Mer.One cb) _).setCell (p:=⟨cb,0,none⟩) (.inl (show Mer.One cb cb from rfl)) _;have hR':R.drop (Jb (R.map Qd.v) m c)=R.drop j:=by rw [It.out]
    refine ⟨by show _=Ending.returned (.int .i64 ((Jb (R.map Qd.v) m c:Nat):Int));rw [It.out];rfl,⟨cb,a',c',R.drop j⟩,rfl,?_,⟨?_,?_,?_⟩,?_,?_,?_⟩
    ·show (R.drop j).map Qd.v=(R.map Qd.v).drop (Jb (R.map Qd.v) m c)
     rw [It.out,List.map_drop]
    ·have:=Qh hcy 0 (.slice a' (n-j) c');unfold Ja.row;simp only
     rw [Uv.out];simpa using this
    ·unfold Ja.row;simp only
     rw [Uv.out]
     exact Vf.out.2.1.keep kz λgg hg e=>by
      have e:gg=cb:=e;have h1:=Vf.out.2.2.1 gg hg;have h2:=Xq.out.lt hcb;omega
    ·intro z hz
     exact ((HC.out.vals z (List.mem_of_mem_drop hz)).keep (Xq.out.trans_same Cl.out) λ_ _ x=>x).apart kz λgg hg cur hcur=>by
      have e:gg=cb:=hg;rw [e,hcy] at hcur;injection hcur with hcur;injection hcur with _ ht;exact absurd ht (by decide)
    ·exact ((Xq.out.trans_same Cl.out).of_no).trans_same kz
    ·right
     intro gg hg;have hg:(Value.slice a' (R.drop j).length c').ownBlock=some gg:=hg;rw [Uv.out] at hg;have h1:=Vf.out.2.2.1 gg hg;have h2:=Xq.out.size;omega
    ·exact λz hz=>List.mem_of_mem_drop hz
theorem Qrm {k U:Nat} (h:k<U):min (k+1) U=k+1:=by omega
theorem Qrl {k U:Nat} (h:U<=k):min (k+1) U=min k U:=by omega
theorem Nx (w:World) (k0:Ja) (m c:Int) (hc:Y7 148 w k0) (hs:Li k0.vs) (hn:k0.R.length<=1000000):
  Calls Tryz.prog 135 #[.pointer (some ⟨k0.b,0,none⟩),Xo m c] w λe w'=>e= .returned (.int .i64 ((Z0 k0.vs m c:Nat)-1:Int))/\Kp No w w':=by
 obtain ⟨cb,ra,rc,R⟩:=k0;obtain ⟨n,hnR⟩: ∃n,n=R.length:=⟨_,rfl⟩;have hrow:(⟨cb,ra,rc,R⟩:Ja).row= .slice ra n rc:=by unfold Ja.row;rw [hnR]
 have hR:Rd w w.heap.size ra (R.flatMap Qg):=Own.rd' (a:=ra) (cap:=rc) (m:=R.length) hc.own;have hcell:=hc.cell;rw [hrow] at hcell;obtain ⟨vs,hvs⟩: ∃vs,vs=(⟨cb,ra,rc,R⟩:Ja).vs:=⟨_,rfl⟩;rw [<-hvs] at hs⊢;have Q2m:vs=R.map Qd.v:=hvs;obtain ⟨U,hU⟩: ∃U,U=Z0 vs m c:=⟨_,rfl⟩;have J8d:U<=n:=by rw [hU,hnR,<-List.length_map (f:=Qd.v),<-Q2m];exact Gu _ _ _
 obtain ⟨w1,hw1⟩: ∃W,W=w.alloc (.cells #[.int .i64 m, .int .i64 c] 25):=⟨_,rfl⟩;have k1:Kp No w w1:=by rw [hw1];exact zK.alloc _
 have b1:w1.heap[w.heap.size]?=some (.cells #[.int .i64 m, .int .i64 c] 25 (0,0)):=by rw [hw1];exact heap_alloc_new w _
 obtain ⟨b,hb⟩: ∃b,b=w.heap.size:=⟨_,rfl⟩;rw [<-hb] at b1;have hcl:=Q3 hcell;have H:=zz (And.intro (k1.get hcell λx=>x) (And.intro b1 (And.intro (Rd.kp hR k1) k1)));have HS:=zz (And.intro hs (And.intro Q2m (And.intro hU J8d)));have HN:=zz hnR;have HW:=zz hw1;have hn:R.length<=1000000:=hn;have hnn:n<=1000000:=by omega
 rw [<-hU];have J14:=k1.lt hcl;have hbl:=Q3 b1;have c0: ∀W,Kp No w1 W->W.cell? ⟨cb,0,none⟩=some (.slice ra n rc):=λW hW=>Q0 (hW.get H.out.1 λx=>x) 0;have RB:=zz (show ∀W,Kp No w1 W->W.rangeAt b 0 [.int .i64 m, .int .i64 c] from λW hW=>by have:=Qb (hW.get H.out.2.1 λx=>x) 0 2;exact this);simp only [Xo];clear hc hs hn hnR hrow hR hcell hvs Q2m hU hw1 k1 b1 hcl;go_enter Tryz.func135,Tryz.ntmps135
 go_upto_region 1 with fail
 rw [<-HW.out,<-hb];clear hb;go_wp2_with fail
 go_loopw [5,6] (λv i wr=> ∃k:Nat,k<=n/\i= .int .i64 (k:Int)/\v= .int .i64 ((min k U:Nat)-1:Int)/\Hid (Kp No w1 wr)) (λ_ i _=>n-(intOf i).toNat)
 case atStart=>exact ⟨0,Nat.zero_le _,rfl,by simp,zz zK⟩
 case round=>
  obtain ⟨k,hk,rfl,rfl,HK⟩:=hrel;have ck:wr.cell? ⟨cb,0,none⟩=some (.slice ra n rc):=c0 wr HK.out;have hcr:=HK.out.lt J14;obtain ⟨V,hV⟩: ∃V:Int,V=((min k U:Nat)-1:Int):=⟨_,rfl⟩;rw [<-hV];have HVV:=zz hV;clear hV;rcases Nat.lt_or_ge k n with hlt|hge
  ·have hkR:k<R.length:=by have:=HN.out;omega
   obtain ⟨g,off,rfl,hgl,hgr⟩:=Yh H.out.2.2.1 hkR;have hxk:vs[k]?=some R[k].v:=by rw [HS.out.2.1,List.getElem?_map,List.getElem?_eq_getElem hkR];rfl
   obtain ⟨x,hx⟩: ∃x,x=R[k]:=⟨_,rfl⟩;rw [<-hx] at hgr hxk
   have RX:=zz (show ∀W,Kp No wr W->W.rangeAt g (off+k*6) [.int .i64 x.v.m, .int .i64 x.v.c] from λW hW=>λj u hu=>by
    have h1:=hgr W (HK.out.trans_same hW) j u;match j,hu with
    |0,hu=>exact h1 hu
    |1,hu=>exact h1 hu)
   have J7l:=zz (show ∀W,Kp No wr W->W.rangeAt b 0 [.int .i64 m, .int .i64 c] from λW hW=>RB.out W (HK.out.trans_same hW));have cw: ∀W,Kp No wr W->W.cell? ⟨cb,0,none⟩=some (.slice (some ⟨g,off,none⟩) n rc):=λW hW=>c0 W (HK.out.trans_same hW);have hst:=(Xi x.v.m x.v.c m c).1;obtain ⟨q,hq⟩: ∃q,q=Js x.v.m x.v.c m c:=⟨_,rfl⟩;have HC:=zz (show ∀W,Calls Tryz.prog 27 #[Xo x.v.m x.v.c,Xo m c] W λe w'=>e= .returned (.int .i64 q)/\Kp No W w' from λW=>by rw [hq];exact Eb _ _ _ _ W);rw [<-hq] at hst;have J47:=zz hxk;have HST:=zz hst;clear hgr hxk hx hq hst hkR hgl c0;have HC2:=zz (show ∀W,Calls Tryz.prog 27 #[.agg #[.int .i64 x.v.m, .int .i64 x.v.c], .agg #[.int .i64 m, .int .i64 c]] W λe w'=>e= .returned (.int .i64 q)/\Kp No W w' from HC.out);clear HC;go_upto_region 5 with fail
   refine zD No [0,0,0,0,0,0,0,0,0,2,0] [0,1,2,3,4,5,6,7,8,9,10] ?_;repeat (first|refine zA ?_|refine zB ?_|refine zC ?_)
   apply Q8 rfl rfl rfl
   ·intro W hW;exact Q9 25 _ rfl g (off+k*6) rfl [.int .i64 x.v.m, .int .i64 x.v.c] _ (RX.out W hW) Tryz.underlying25 rfl (by kernel_rfl)
   ·(focus (go_simp;rfl))
   repeat (first|refine zA ?_|refine zB ?_|refine zC ?_)
   apply Q8 rfl rfl rfl
   ·intro W hW;exact Q9 25 _ rfl b 0 rfl [.int .i64 m, .int .i64 c] _ (J7l.out W hW) Tryz.underlying25 rfl (by kernel_rfl)
   ·(focus (go_simp;rfl))
   refine Q4 rfl rfl (λn1=>?_);go_wp2_with fail
   refine (HC2.out _).mono ?_;rintro e wa ⟨rfl,Gl⟩;have ka:Kp No wr wa:=Gl.of_drewN;clear Gl;go_wp2_with fail
   (try refine ⟨ka,?_⟩)
   repeat (first|refine zA ?_|refine zB ?_|refine zC ?_)
   refine Q6 (λnq=>?_);have M6:=zz ((HK.out.trans_same ka).drewN nq);clear ka cw ck;by_cases hq0:q<=0
   ·have d0:decide (q<=0)=true:=decide_eq_true hq0
    have Qvw:k<U:=by
     have h1:=HST.out.1 hq0;rcases Nat.lt_or_ge k U with h2|h2
     ·exact h2
     ·have h3:=Q8z HS.out.1 (m:=m) (c:=c) (i:=k) (by rw [<-HS.out.2.2.1];exact h2) J47.out;rw [h1] at h3;cases h3
    have HE:=zz (show ((min (k+1) U:Nat)-1:Int)=(k:Int) by rw [Qrm Qvw];omega);clear Qvw;go_wp2_with fail
    go_roundw
    case rel=>exact ⟨k+1,hlt,by go_num,by rw [HE.out],M6⟩
    case measure=>simp [intOf];omega
   ·have d0:decide (q<=0)=false:=decide_eq_false hq0
    have Qvw:U<=k:=by
     rcases Nat.lt_or_ge k U with h2|h2
     ·have h3:=Nu (m:=m) (c:=c) (i:=k) (by rw [<-HS.out.2.2.1];exact h2) J47.out;exact absurd (HST.out.2 h3) hq0
     ·exact h2
    have HE:=zz (show ((min (k+1) U:Nat)-1:Int)=V by rw [Qrl Qvw];exact HVV.out.symm);clear Qvw;go_wp2_with fail
    go_roundw
    case rel=>exact ⟨k+1,hlt,by go_num,by rw [HE.out],M6⟩
    case measure=>simp [intOf];omega
  ·obtain rfl:n=k:=by omega
   have HE:=zz (show V=((U:Nat)-1:Int) by rw [HVV.out,Nat.min_eq_right HS.out.2.2.2]);have Q3k:=zz (H.out.2.2.2.trans_same HK.out);clear hge;go_wp2_with fail
   go_ret
   exact ⟨by rw [HE.out];rfl,Q3k.out⟩
theorem Qdk (w:World) (k0:Ja) (m c:Int) (hm:m<=9223372036854775807) (hc:Y7 148 w k0) (hs:Li k0.vs) (hn:k0.R.length<=1000000) (hvs: ∀v∈k0.vs,Zx v=true):
  Calls Tryz.prog 130 #[.pointer (some ⟨k0.b,0,none⟩),Xo m c] w λe w'=>e= .returned (.int .i64 (Jb k0.vs m c:Nat))/\ ∃c',O7 148 k0 c' m c w w':=by
 have hup:=λW (h:Kp No w W)=>Nx W k0 m c (hc.Q5 h) hs hn;obtain ⟨w1,hw1⟩: ∃W,W=w.alloc (.cells #[.int .i64 m, .int .i64 c] 25):=⟨_,rfl⟩;have k1:Kp No w w1:=by rw [hw1];exact zK.alloc _
 have b1:w1.heap[w.heap.size]?=some (.cells #[.int .i64 m, .int .i64 c] 25 (0,0)):=by rw [hw1];exact heap_alloc_new w _
 have c0:w1.cell? ⟨w.heap.size,0,none⟩=some (.int .i64 m):=Q0 b1 0;have c1:w1.cell? ⟨w.heap.size,1,none⟩=some (.int .i64 c):=Q0 b1 1;have hl1:=Q3 b1;have U8:=zz k1;have HB1:=zz b1;have HW1:=zz hw1;cases hat:Lw k0.vs m c with
 |none=>
  have hu0:=Gc.1 hat;rw [hu0] at hup;have H:=zz (show Calls Tryz.prog _ #[.pointer (some ⟨k0.b,0,none⟩),Xo m c] w1 λe w'=>e= .returned (.int .i64 (-1))/\Kp No w1 w' from hup w1 k1);have HT:=zz (As hat);have HC:=zz hc;obtain ⟨cb,hcb⟩: ∃cb,cb=k0.b:=⟨_,rfl⟩;rw [<-hcb] at H⊢;clear hup k1 b1 hw1 hat hu0 hc hcb hs;go_enter Tryz.func130,Tryz.ntmps130
  go_upto_region 1 with fail
  rw [<-HW1.out];go_wp2_with fail
  refine H.out.mono ?_;rintro e w3 ⟨rfl,k3⟩;have Zj:=zz (U8.out.trans_same k3);clear k3 c0 c1 hl1;go_wp2_with fail
  go_ret
  rw [HT.out];exact ⟨rfl,k0,O7.same HC.out Zj.out HT.out⟩
 |some v=>
  obtain ⟨u,hu1,hu2⟩:=Gd hat;rw [hu1] at hup;have htn:=Au hat hu1;have hvv:Zx v=true:=hvs v (List.mem_of_getElem? hu2);obtain ⟨cb,ra,rc,R⟩:=k0;obtain ⟨n,hnR⟩: ∃n,n=R.length:=⟨_,rfl⟩;have hrow:(⟨cb,ra,rc,R⟩:Ja).row= .slice ra n rc:=by unfold Ja.row;rw [hnR]
  have hR:Rd w w.heap.size ra (R.flatMap Qg):=by have:=Own.rd' (a:=ra) (cap:=rc) (m:=R.length) hc.own;exact this
  have hu2:(R.map Qd.v)[u]?=some v:=hu2;rw [List.getElem?_map] at hu2;obtain ⟨x,hx,hxv⟩:=Option.map_eq_some_iff.1 hu2;have Qh4:=(List.getElem?_eq_some_iff.1 hx).1;have hxe:R[u]=x:=(List.getElem?_eq_some_iff.1 hx).2;obtain ⟨g,off,rfl,hgl,hgr⟩:=Yh hR Qh4;rw [hxe] at hgr;have hun:u<n:=by omega
  have hnn:n<=1000000:=by simp only at hn;omega
  have hrc:n<=rc:=by
   obtain ⟨_,a,cap,e,h1,_⟩:=hc.own;unfold Ja.row at e;injection e with _ _ e3;have e3:rc=cap:=e3;simp only at h1
   omega
  have hcb:=Q3 hc.cell;simp only at hcb htn
  have hw3:((u+1:Nat):Int)-1=(u:Int):=by push_cast;omega
  rw [hw3] at hup;have hw4:decide ((u:Int)<0)=false:=decide_eq_false (by omega);have hw5:decide (u<0)=false:=decide_eq_false (by omega);have hub:u<=1000000:=by omega
  have H:=zz (hup w1 k1);have HC:=zz hc;have V0:=zz hrow;have Q6w:=zz hgr;have HN:=zz hnR;have Qpi:=zz (And.intro hxv hvv);clear hup k1 b1 hw1 hc hrow hgr hxv hvv hnR hR hu2 hx hxe Qh4 hu1 hat hvs hs hw3;go_enter Tryz.func130,Tryz.ntmps130
  go_upto_region 1 with fail
  rw [<-HW1.out];go_wp2_with fail
  refine H.out.mono ?_;rintro e w3 ⟨rfl,k3⟩;have HB3:=zz (k3.get HB1.out λx=>x);have Zj:=zz (U8.out.trans_same k3);clear k3 c0 c1 hl1;have hl3:=Q3 HB3.out;have hcb3:=Zj.out.lt hcb;have hg3:=Zj.out.lt hgl
  have f0: ∀W,Kp No w3 W->W.cell? ⟨cb,0,none⟩=some (.slice (some ⟨g,off,none⟩) n rc):=λW hW=>by
   have:=HC.out.cells.1 W (Zj.out.trans_same hW);rw [V0.out] at this;exact this
  have Qsg:=zz (show ∀W,Kp No w3 W->W.rangeAt w.heap.size 0 [.int .i64 m, .int .i64 c] from λW hW=>by have:=Qb (hW.get HB3.out λx=>x) 0 2;exact this);have Qk3:=zz (λW=>Q1u x (by rw [Qpi.out.1];exact Qpi.out.2) m c hm W);go_upto_region 4 with fail
  refine zD No [0,0,0,0,0,0,0,0,2,0] [0,1,2,3,4,5,6,7,8,9] ?_;repeat (first|refine zA ?_|refine zB ?_|refine zC ?_)
  apply Q8 rfl rfl rfl
  ·intro W hW;exact Q9 44 _ rfl g (off+u*6) rfl (Qg x) _ (Q6w.out W (Zj.out.trans_same hW)) Tryz.underlying44 rfl (by kernel_rfl)
  ·(focus (go_simp;rfl))
  apply Q8 rfl rfl rfl
  ·intro W hW;exact Q9 25 _ rfl w.heap.size 0 rfl [.int .i64 m, .int .i64 c] _ (Qsg.out W hW) Tryz.underlying25 rfl (by kernel_rfl)
  ·(focus (go_simp;rfl))
  refine Q4 rfl rfl (λq=>?_);go_wp2_with fail
  refine (Qk3.out _).mono ?_;rintro e w4 ⟨rfl,k4⟩;have Q0k:Kp No w3 w4:=k4.of_drewN;rw [Qpi.out.1];cases hse:Vr v m c with
  |true=>
   rw [hse,if_pos rfl] at htn;go_wp2_with fail
   (try refine ⟨Q0k,?_⟩)
   repeat (first|refine zA ?_|refine zB ?_|refine zC ?_)
   refine Q6 (λnq=>?_);obtain ⟨wx,hwx⟩: ∃W,W=w4.drewN nq:=⟨_,rfl⟩;have Xq:=zz (show Kp No w wx by rw [hwx];exact (Zj.out.trans_same Q0k).drewN nq);have fx:wx.cell? ⟨cb,0,none⟩=some (.slice (some ⟨g,off,none⟩) n rc):=f0 wx (by rw [hwx];exact Q0k.drewN nq);have It:=zz (show Jb (R.map Qd.v) m c=u from htn);have Qqg:=Xq.out.lt hcb;rw [<-hwx];clear hwx k4 Q0k htn hse f0 hcb3 hl3 hg3;obtain ⟨j,hj⟩: ∃j,j=u:=⟨_,rfl⟩;rw [<-hj] at It hun hw4 hw5 hub;rw [<-hj];have hjn:j<=n:=by omega
   clear hj;by_cases Qwq:rc=j
   ·omega
   ·skip
    go_upto_region 6 with fail
    have hrs:Rd wx wx.heap.size (some ⟨g,off+j*6,none⟩) ((R.drop j).flatMap Qg):=by
     have Qdv:Rd wx wx.heap.size (some ⟨g,off,none⟩) (R.flatMap Qg):=Rd.kp (by have:=Own.rd' (a:=some ⟨g,off,none⟩) (m:=R.length) HC.out.own;exact this) Xq.out;have h2:=Qdv.drop (j*6);rw [Yn Qg 6 J8] at h2;simpa [Option.map,Jq] using h2
    have hdl:(R.drop j).length=n-j:=by have:=HN.out;rw [List.length_drop];omega
    have h0:=Qq.made (E:=44) (sz:=6) (f:=Qg) (Kp.refl No wx);obtain ⟨a',c',wy,hrun,hrel,hkp⟩:=Qq.app (P:=Tryz.prog) (T:=68) Tryz.underlying68 Vo Yg h0 (R.drop j) (Yf (f:=Qg) (c:=rc-j) J8 (Rd.kp hrs ((Kp.refl No wx).alloc _))) rfl (by unfold maxLen;omega) (by omega);rw [Nat.zero_add,List.nil_append] at hrel;rw [Nat.zero_add] at hrun;rw [hdl] at hrel hrun;have hky:Kp No wx wy:=hrel.2.2.2;have HX:=zz hrun
    have fy:wy.cell? ⟨cb,0,none⟩=some (.slice (some ⟨g,off,none⟩) n rc):=by
     have:=HC.out.cells.1 wy (Xq.out.trans_same hky);rw [V0.out] at this;exact this
    have Qup:wy.frozen? ⟨cb,0,none⟩=false:=HC.out.cells.2 wy (Xq.out.trans_same hky);have Qg9:=(Xq.out.trans_same hky).lt hcb;have Vf:=zz hrel;have Cl:=zz hky;have Uv:=zz hdl;clear hrs hdl h0 hrun hrel hkp hky;go_wp2_with (at_builtin;refine wpList_append_run rfl rfl rfl rfl HX.out ?_;clear HX)
    go_ret
    have hcy:wy.heap[cb]?=some (.cells #[.slice (some ⟨g,off,none⟩) n rc] 148 (0,0)):=by
     have h1:=HC.out.cell;rw [V0.out] at h1;exact Cl.out.get (Xq.out.get h1 λx=>x) λx=>x
    have kz:Kp (Mer.One cb) wy (wy.setCell ⟨cb,0,none⟩ (.slice a' (n-j) c')):=(Kp.refl (Mer.One cb) _).setCell (p:=⟨cb,0,none⟩) (.inl (show Mer.One cb cb from rfl)) _;have hR':R.drop (Jb (R.map Qd.v) m c)=R.drop j:=by rw [It.out]
    refine ⟨by show _=Ending.returned (.int .i64 ((Jb (R.map Qd.v) m c:Nat):Int));rw [It.out];rfl,⟨cb,a',c',R.drop j⟩,rfl,?_,⟨?_,?_,?_⟩,?_,?_,?_⟩
    ·show (R.drop j).map Qd.v=(R.map Qd.v).drop (Jb (R.map Qd.v) m c)
     rw [It.out,List.map_drop]
    ·have:=Qh hcy 0 (.slice a' (n-j) c');unfold Ja.row;simp only
     rw [Uv.out];simpa using this
    ·unfold Ja.row;simp only
     rw [Uv.out]
     exact Vf.out.2.1.keep kz λgg hg e=>by
      have e:gg=cb:=e;have h1:=Vf.out.2.2.1 gg hg;have h2:=Xq.out.lt hcb;omega
    ·intro z hz
     exact ((HC.out.vals z (List.mem_of_mem_drop hz)).keep (Xq.out.trans_same Cl.out) λ_ _ x=>x).apart kz λgg hg cur hcur=>by
      have e:gg=cb:=hg;rw [e,hcy] at hcur;injection hcur with hcur;injection hcur with _ ht;exact absurd ht (by decide)
    ·exact ((Xq.out.trans_same Cl.out).of_no).trans_same kz
    ·right
     intro gg hg;have hg:(Value.slice a' (R.drop j).length c').ownBlock=some gg:=hg;rw [Uv.out] at hg;have h1:=Vf.out.2.2.1 gg hg;have h2:=Xq.out.size;omega
    ·exact λz hz=>List.mem_of_mem_drop hz
  |false=>
   rw [hse,if_neg (by decide)] at htn;go_wp2_with fail
   (try refine ⟨Q0k,?_⟩)
   repeat (first|refine zA ?_|refine zB ?_|refine zC ?_)
   refine Q6 (λnq=>?_);obtain ⟨wx,hwx⟩: ∃W,W=w4.drewN nq:=⟨_,rfl⟩;have Xq:=zz (show Kp No w wx by rw [hwx];exact (Zj.out.trans_same Q0k).drewN nq);have fx:wx.cell? ⟨cb,0,none⟩=some (.slice (some ⟨g,off,none⟩) n rc):=f0 wx (by rw [hwx];exact Q0k.drewN nq);obtain ⟨j,hj⟩: ∃j,j=u+1:=⟨_,rfl⟩;have It:=zz (show Jb (R.map Qd.v) m c=j by rw [hj];exact htn);have Qqg:=Xq.out.lt hcb;have J5e:(u:Int)+1=(j:Int):=by rw [hj];push_cast;rfl
   have hjn:j<=n:=by omega
   have hj1:1<=j:=by omega
   rw [<-hwx];clear hwx k4 Q0k htn hse f0 hcb3 hl3 hg3 hj;go_upto_region 6 with fail
   (try rw [J5e])
   clear J5e;by_cases Qwq:rc=j
   ·have hjr:=Qwq.symm;subst hjr;go_upto_region 6 with fail
    have hrs:Rd wx wx.heap.size (some ⟨g,off,none⟩) ((R.drop j).flatMap Qg):=by
     have Qdv:Rd wx wx.heap.size (some ⟨g,off,none⟩) (R.flatMap Qg):=Rd.kp (by have:=Own.rd' (a:=some ⟨g,off,none⟩) (m:=R.length) HC.out.own;exact this) Xq.out;have h1:R.drop j=[]:=List.drop_of_length_le (by have:=HN.out;omega);rw [h1];exact Rd.nil _ _ _
    have hdl:(R.drop j).length=0:=by have:=HN.out;rw [List.length_drop];omega
    have h0:=Qq.made (E:=44) (sz:=6) (f:=Qg) (Kp.refl No wx);obtain ⟨a',c',wy,hrun,hrel,hkp⟩:=Qq.app (P:=Tryz.prog) (T:=68) Tryz.underlying68 Vo Yg h0 (R.drop j) (Yf (f:=Qg) (c:=0) J8 (Rd.kp hrs ((Kp.refl No wx).alloc _))) rfl (by unfold maxLen;omega) (by omega);rw [Nat.zero_add,List.nil_append] at hrel;rw [Nat.zero_add] at hrun;rw [hdl] at hrel hrun;have hky:Kp No wx wy:=hrel.2.2.2;have HX:=zz hrun
    have fy:wy.cell? ⟨cb,0,none⟩=some (.slice (some ⟨g,off,none⟩) n j):=by
     have:=HC.out.cells.1 wy (Xq.out.trans_same hky);rw [V0.out] at this;exact this
    have Qup:wy.frozen? ⟨cb,0,none⟩=false:=HC.out.cells.2 wy (Xq.out.trans_same hky);have Qg9:=(Xq.out.trans_same hky).lt hcb;have Vf:=zz hrel;have Cl:=zz hky;have Uv:=zz hdl;clear hrs hdl h0 hrun hrel hkp hky;go_wp2_with (at_builtin;refine wpList_append_run rfl rfl rfl rfl HX.out ?_;clear HX)
    go_ret
    have hcy:wy.heap[cb]?=some (.cells #[.slice (some ⟨g,off,none⟩) n j] 148 (0,0)):=by
     have h1:=HC.out.cell;rw [V0.out] at h1;exact Cl.out.get (Xq.out.get h1 λx=>x) λx=>x
    have kz:Kp (Mer.One cb) wy (wy.setCell ⟨cb,0,none⟩ (.slice a' (0) c')):=(Kp.refl (Mer.One cb) _).setCell (p:=⟨cb,0,none⟩) (.inl (show Mer.One cb cb from rfl)) _;have hR':R.drop (Jb (R.map Qd.v) m c)=R.drop j:=by rw [It.out]
    refine ⟨by show _=Ending.returned (.int .i64 ((Jb (R.map Qd.v) m c:Nat):Int));rw [It.out];rfl,⟨cb,a',c',R.drop j⟩,rfl,?_,⟨?_,?_,?_⟩,?_,?_,?_⟩
    ·show (R.drop j).map Qd.v=(R.map Qd.v).drop (Jb (R.map Qd.v) m c)
     rw [It.out,List.map_drop]
    ·have:=Qh hcy 0 (.slice a' (0) c');unfold Ja.row;simp only
     rw [Uv.out];simpa using this
    ·unfold Ja.row;simp only
     rw [Uv.out]
     exact Vf.out.2.1.keep kz λgg hg e=>by
      have e:gg=cb:=e;have h1:=Vf.out.2.2.1 gg hg;have h2:=Xq.out.lt hcb;omega
    ·intro z hz
     exact ((HC.out.vals z (List.mem_of_mem_drop hz)).keep (Xq.out.trans_same Cl.out) λ_ _ x=>x).apart kz λgg hg cur hcur=>by
      have e:gg=cb:=hg;rw [e,hcy] at hcur;injection hcur with hcur;injection hcur with _ ht;exact absurd ht (by decide)
    ·exact ((Xq.out.trans_same Cl.out).of_no).trans_same kz
    ·right
     intro gg hg;have hg:(Value.slice a' (R.drop j).length c').ownBlock=some gg:=hg;rw [Uv.out] at hg;have h1:=Vf.out.2.2.1 gg hg;have h2:=Xq.out.size;omega
    ·exact λz hz=>List.mem_of_mem_drop hz
   ·skip
    go_upto_region 6 with fail
    have hrs:Rd wx wx.heap.size (some ⟨g,off+j*6,none⟩) ((R.drop j).flatMap Qg):=by
     have Qdv:Rd wx wx.heap.size (some ⟨g,off,none⟩) (R.flatMap Qg):=Rd.kp (by have:=Own.rd' (a:=some ⟨g,off,none⟩) (m:=R.length) HC.out.own;exact this) Xq.out;have h2:=Qdv.drop (j*6);rw [Yn Qg 6 J8] at h2;simpa [Option.map,Jq] using h2
    have hdl:(R.drop j).length=n-j:=by have:=HN.out;rw [List.length_drop];omega
    have h0:=Qq.made (E:=44) (sz:=6) (f:=Qg) (Kp.refl No wx);obtain ⟨a',c',wy,hrun,hrel,hkp⟩:=Qq.app (P:=Tryz.prog) (T:=68) Tryz.underlying68 Vo Yg h0 (R.drop j) (Yf (f:=Qg) (c:=rc-j) J8 (Rd.kp hrs ((Kp.refl No wx).alloc _))) rfl (by unfold maxLen;omega) (by omega);rw [Nat.zero_add,List.nil_append] at hrel;rw [Nat.zero_add] at hrun;rw [hdl] at hrel hrun;have hky:Kp No wx wy:=hrel.2.2.2;have HX:=zz hrun
    have fy:wy.cell? ⟨cb,0,none⟩=some (.slice (some ⟨g,off,none⟩) n rc):=by
     have:=HC.out.cells.1 wy (Xq.out.trans_same hky);rw [V0.out] at this;exact this
    have Qup:wy.frozen? ⟨cb,0,none⟩=false:=HC.out.cells.2 wy (Xq.out.trans_same hky);have Qg9:=(Xq.out.trans_same hky).lt hcb;have Vf:=zz hrel;have Cl:=zz hky;have Uv:=zz hdl;clear hrs hdl h0 hrun hrel hkp hky;go_wp2_with (at_builtin;refine wpList_append_run rfl rfl rfl rfl HX.out ?_;clear HX)
    go_ret
    have hcy:wy.heap[cb]?=some (.cells #[.slice (some ⟨g,off,none⟩) n rc] 148 (0,0)):=by
     have h1:=HC.out.cell;rw [V0.out] at h1;exact Cl.out.get (Xq.out.get h1 λx=>x) λx=>x
    have kz:Kp (Mer.One cb) wy (wy.setCell ⟨cb,0,none⟩ (.slice a' (n-j) c')):=(Kp.refl (Mer.One cb) _).setCell (p:=⟨cb,0,none⟩) (.inl (show Mer.One cb cb from rfl)) _;have hR':R.drop (Jb (R.map Qd.v) m c)=R.drop j:=by rw [It.out]
    refine ⟨by show _=Ending.returned (.int .i64 ((Jb (R.map Qd.v) m c:Nat):Int));rw [It.out];rfl,⟨cb,a',c',R.drop j⟩,rfl,?_,⟨?_,?_,?_⟩,?_,?_,?_⟩
    ·show (R.drop j).map Qd.v=(R.map Qd.v).drop (Jb (R.map Qd.v) m c)
     rw [It.out,List.map_drop]
    ·have:=Qh hcy 0 (.slice a' (n-j) c');unfold Ja.row;simp only
     rw [Uv.out];simpa using this
    ·unfold Ja.row;simp only
     rw [Uv.out]
     exact Vf.out.2.1.keep kz λgg hg e=>by
      have e:gg=cb:=e;have h1:=Vf.out.2.2.1 gg hg;have h2:=Xq.out.lt hcb;omega
    ·intro z hz
     exact ((HC.out.vals z (List.mem_of_mem_drop hz)).keep (Xq.out.trans_same Cl.out) λ_ _ x=>x).apart kz λgg hg cur hcur=>by
      have e:gg=cb:=hg;rw [e,hcy] at hcur;injection hcur with hcur;injection hcur with _ ht;exact absurd ht (by decide)
    ·exact ((Xq.out.trans_same Cl.out).of_no).trans_same kz
    ·right
     intro gg hg;have hg:(Value.slice a' (R.drop j).length c').ownBlock=some gg:=hg;rw [Uv.out] at hg;have h1:=Vf.out.2.2.1 gg hg;have h2:=Xq.out.size;omega
    ·exact λz hz=>List.mem_of_mem_drop hz
theorem Q6c (u:Nat) (h:u<=4611686018427387904): ∃v:Nat,v<128/\v=u % 128/\bits .and .u64 (u:Int) 127=(v:Int)/\(v:Int) % 256=(v:Int)/\bits .or .u8 (v:Int) 128=((UInt8.ofNat (u % 128+128)).toNat:Int)/\ ∃z:Nat,z=u/128/\(u:Int)/128=(z:Int):=by
 refine ⟨u % 128,Nat.mod_lt _ (by decide),rfl,?_,Int.emod_eq_of_lt (by omega) (by omega),?_,u/128,rfl,(Int.natCast_ediv u 128).symm⟩
 ·have:=Cu (k:= .u64) rfl (a:=u) (b:=127) (show u<2^64 by omega) (by decide);rw [show (127:Nat)=2^7-1 from rfl,Nat.and_two_pow_sub_one_eq_mod u 7] at this;exact this
 ·rw [Me];have:=Q32 (u % 128);rw [Int.emod_eq_of_lt (by omega) (by omega)] at this;rw [this];congr 1
  omega
theorem Kf (n:Nat) (hn:n<=4611686018427387904) (w:World):Calls Tryz.prog 69 #[.int .i64 (n:Int)] w (Q9m w (Ql n)):=by
 have d1:decide ((4611686018427387904:Int)<(n:Int))=false:=by rw [decide_eq_false_iff_not];omega
 by_cases h0:0<n
 ·have d2:decide ((0:Int)<(n:Int))=true:=by rw [decide_eq_true_iff];omega
  have hmod:(n:Int) % 18446744073709551616=(n:Int):=Int.emod_eq_of_lt (by omega) (by omega);go_enter Tryz.func69,Tryz.ntmps69
  go_wp2_with fail
  rename World=>w0;go_loopw [3,4] (λs3 s4 wr=> ∃(u:Nat) (a:Option Addr) (k c:Nat),u<=4611686018427387904/\s3= .int .u64 (u:Int)/\s4= .slice a k c/\Hid (Q40 w0 wr n u a k c)) (λs3 _ _=>(intOf s3).toNat)
  case atStart=>exact ⟨n,none,0,0,by omega,rfl,rfl,zz ⟨[],rfl,rfl,Mer.Own.nil _ _ _,λg h=>(by cases h),Kp.refl _ _⟩⟩
  case round=>
   obtain ⟨u,a,k,c,hu,rfl,rfl,HR⟩:=hrel;obtain ⟨xs,hk,hnum,hown,hfr,hkp⟩:=HR.out
   have hkl:k<=10:=by
    have h1:=Qm hn;rw [hnum,List.length_append] at h1;omega
   by_cases hlt:128<=u
   ·have e1:decide ((128:Int)<=(u:Int))=true:=by rw [decide_eq_true_iff];omega
    have e2:decide (128<=u)=true:=decide_eq_true hlt;obtain ⟨v,hv1,hv2,b1,b2,b3,z,hz,b4⟩:=Q6c u hu;obtain ⟨a',c',w',hrun,ho,hf,hk'⟩:=Un w0 wr (.slice a k c) xs (UInt8.ofNat (u % 128+128)) (by rw [hk];exact hown) hfr hkp (by omega);rw [hk] at hrun ho hf;have hnew:Q40 w0 w' n z a' (k+1) c':=⟨xs++[UInt8.ofNat (u % 128+128)],by rw [List.length_append,hk];rfl,by rw [hnum,E0 hlt,hz,List.append_assoc];rfl,ho,hf,hk'⟩;obtain ⟨x,hx⟩: ∃x:Nat,x=(UInt8.ofNat (u % 128+128)).toNat:=⟨_,rfl⟩;rw [<-hx] at hrun b3;have HX:=zz hrun;have Yz:=zz hnew;have hzu:z<u:=by omega
    have HZ:=zz hz;clear hv2 hz hnum hown hfr hkp hrun ho hf hk' hnew hx hk HR;go_wp2_with (at_builtin;refine wpList_append_run rfl rfl rfl rfl HX.out ?_)
    go_roundw
    case rel=>exact ⟨z,a',k+1,c',by omega,rfl,rfl,Yz⟩
    case measure=>simp [intOf];omega
   ·have e1:decide ((128:Int)<=(u:Int))=false:=by rw [decide_eq_false_iff_not];omega
    have e2:decide (128<=u)=false:=by rw [decide_eq_false_iff_not];omega
    have hm:(u:Int) % 256=(u:Int):=Int.emod_eq_of_lt (by omega) (by omega);obtain ⟨a',c',w',hrun,ho,hf,hk'⟩:=Un w0 wr (.slice a k c) xs (UInt8.ofNat u) (by rw [hk];exact hown) hfr hkp (by omega);rw [hk] at hrun ho hf;rw [show (UInt8.ofNat u).toNat=u by rw [Lb];omega] at hrun;have hl:Ql n=xs++[UInt8.ofNat u]:=by rw [hnum,Xe (by omega)]
    have hll:(Ql n).length=k+1:=by rw [hl,List.length_append,hk];rfl
    have hfin:Q9m w0 (Ql n) (.returned (.slice a' (k+1) c')) w':=⟨a',c',by rw [hll],by rw [hll,hl];exact ho,by rw [hll];exact hf,hk'⟩;have HX:=zz hrun;have Zv:=zz hfin;clear hnum hown hfr hkp hrun ho hf hk' hfin hk hl hll HR;go_wp2_with (at_builtin;refine wpList_append_run rfl rfl rfl rfl HX.out ?_)
    go_ret
    exact Zv.out
 ·have d2:decide ((0:Int)<(n:Int))=false:=by rw [decide_eq_false_iff_not];omega
  have Qzb:=zz (show n=0 by omega);go_enter Tryz.func69,Tryz.ntmps69
  go_wp2_with fail
  rename World=>w0;go_loopw [3,4] (λs3 s4 wr=> ∃(u:Nat) (a:Option Addr) (k c:Nat),u<=4611686018427387904/\s3= .int .u64 (u:Int)/\s4= .slice a k c/\Hid (Q40 w0 wr n u a k c)) (λs3 _ _=>(intOf s3).toNat)
  case atStart=>exact ⟨0,none,0,0,by omega,rfl,rfl,zz ⟨[],rfl,by rw [Qzb.out];rfl,Mer.Own.nil _ _ _,λg h=>(by cases h),Kp.refl _ _⟩⟩
  case round=>
   obtain ⟨u,a,k,c,hu,rfl,rfl,HR⟩:=hrel;obtain ⟨xs,hk,hnum,hown,hfr,hkp⟩:=HR.out
   have hkl:k<=10:=by
    have h1:=Qm hn;rw [hnum,List.length_append] at h1;omega
   by_cases hlt:128<=u
   ·have e1:decide ((128:Int)<=(u:Int))=true:=by rw [decide_eq_true_iff];omega
    have e2:decide (128<=u)=true:=decide_eq_true hlt;obtain ⟨v,hv1,hv2,b1,b2,b3,z,hz,b4⟩:=Q6c u hu;obtain ⟨a',c',w',hrun,ho,hf,hk'⟩:=Un w0 wr (.slice a k c) xs (UInt8.ofNat (u % 128+128)) (by rw [hk];exact hown) hfr hkp (by omega);rw [hk] at hrun ho hf;have hnew:Q40 w0 w' n z a' (k+1) c':=⟨xs++[UInt8.ofNat (u % 128+128)],by rw [List.length_append,hk];rfl,by rw [hnum,E0 hlt,hz,List.append_assoc];rfl,ho,hf,hk'⟩;obtain ⟨x,hx⟩: ∃x:Nat,x=(UInt8.ofNat (u % 128+128)).toNat:=⟨_,rfl⟩;rw [<-hx] at hrun b3;have HX:=zz hrun;have Yz:=zz hnew;have hzu:z<u:=by omega
    have HZ:=zz hz;clear hv2 hz hnum hown hfr hkp hrun ho hf hk' hnew hx hk HR;go_wp2_with (at_builtin;refine wpList_append_run rfl rfl rfl rfl HX.out ?_)
    go_roundw
    case rel=>exact ⟨z,a',k+1,c',by omega,rfl,rfl,Yz⟩
    case measure=>simp [intOf];omega
   ·have e1:decide ((128:Int)<=(u:Int))=false:=by rw [decide_eq_false_iff_not];omega
    have e2:decide (128<=u)=false:=by rw [decide_eq_false_iff_not];omega
    have hm:(u:Int) % 256=(u:Int):=Int.emod_eq_of_lt (by omega) (by omega);obtain ⟨a',c',w',hrun,ho,hf,hk'⟩:=Un w0 wr (.slice a k c) xs (UInt8.ofNat u) (by rw [hk];exact hown) hfr hkp (by omega);rw [hk] at hrun ho hf;rw [show (UInt8.ofNat u).toNat=u by rw [Lb];omega] at hrun;have hl:Ql n=xs++[UInt8.ofNat u]:=by rw [hnum,Xe (by omega)]
    have hll:(Ql n).length=k+1:=by rw [hl,List.length_append,hk];rfl
    have hfin:Q9m w0 (Ql n) (.returned (.slice a' (k+1) c')) w':=⟨a',c',by rw [hll],by rw [hll,hl];exact ho,by rw [hll];exact hf,hk'⟩;have HX:=zz hrun;have Zv:=zz hfin;clear hnum hown hfr hkp hrun ho hf hk' hfin hk hl hll HR;go_wp2_with (at_builtin;refine wpList_append_run rfl rfl rfl rfl HX.out ?_)
    go_ret
    exact Zv.out
def Qzs (w wr:World) (V:List Nat) (j:Nat) (a:Option Addr) (k c:Nat):Prop:=
 k=((V.take j).flatMap Ql).length/\Mer.Own wr 5 1 (.slice a k c) k (u8s ((V.take j).flatMap Ql))/\(∀g,(Value.slice a k c).ownBlock=some g->w.heap.size<=g)/\Kp No w wr
theorem Qly (V:List Nat) (hV: ∀n∈V,n<=4611686018427387904) (j:Nat):((V.take j).flatMap Ql).length<=10*V.length:=by
 have key: ∀l:List Nat,(∀n∈l,n<=4611686018427387904)->(l.flatMap Ql).length<=10*l.length:=by
  intro l;induction l with
  |nil=>intro _;exact Nat.le_refl _
  |cons n l ih=>
   intro h;have h1:=Qm (h n (List.mem_cons_self ..));have h2:=ih λx hx=>h x (List.mem_cons_of_mem _ hx);rw [List.flatMap_cons,List.length_append,List.length_cons];omega
 have h1:=key (V.take j) λn hn=>hV n (List.mem_of_mem_take hn);have h2:=List.length_take_le' j V;omega
theorem Xm (w:World) (g c:Nat) (V:List Nat) (t:TypeId) (hV: ∀n∈V,n<=4611686018427387904) (hg:w.heap[g]?=some (.cells (V.map Q2o).toArray t (0,0))) (hn:V.length<=100):
  Calls Tryz.prog 75 #[.slice (some ⟨g,0,none⟩) V.length c] w (Q9m w (V.flatMap Ql)):=by
 obtain ⟨m,hm⟩: ∃m,m=V.length:=⟨_,rfl⟩;have HG:=zz hg;have HV:=zz hV;have HM:=zz hm;have hgl:=Q3 hg;have hmm:m<=100:=by omega
 rw [<-hm];clear hg hV hn hm;go_enter Tryz.func75,Tryz.ntmps75
 go_wp2_with fail
 rename World=>w0;go_loopw [3,4] (λs3 s4 wr=> ∃(j:Nat) (a:Option Addr) (k c:Nat),j<=m/\s3= .slice a k c/\s4= .int .i64 (j:Int)/\Hid (Qzs w0 wr V j a k c)) (λ_ s4 _=>m-(intOf s4).toNat)
 case atStart=>exact ⟨0,none,0,0,Nat.zero_le _,rfl,rfl,zz ⟨rfl,Mer.Own.nil _ _ _,λg h=>(by cases h),Kp.refl _ _⟩⟩
 case round=>
  obtain ⟨j,a,k,c,hj,rfl,rfl,HR⟩:=hrel;rcases Nat.lt_or_ge j m with hlt|hge
  ·have Ql5:j<V.length:=by have:=HM.out;omega
   have bg:=HR.out.2.2.2.get HG.out λx=>x;have Ql2:=Q3 bg
   have cj:wr.cell? ⟨g,j,none⟩=some (.int .i64 ((V[j]:Nat):Int)):=by
    rw [Q0 bg];simp [Q2o,Ql5]
   have hVj:=HV.out V[j] (List.getElem_mem Ql5);have hst:V.take (j+1)=V.take j++[V[j]]:=List.take_succ_eq_append_getElem Ql5;obtain ⟨x,hx⟩: ∃x,x=V[j]:=⟨_,rfl⟩;rw [<-hx] at cj hVj hst;have HN:=zz (Kf x hVj wr);have HST:=zz hst;have hl:=Qly V HV.out j;have hl1:=Qm hVj;have HL:=zz (And.intro hl hl1);clear bg hVj hst hx hl hl1 Ql5;go_wp2_with fail
   refine HN.out.mono ?_;rintro e w2 ⟨b,cb,rfl,hown,hfr,hk2⟩;have hok:Mer.Own w2 5 1 (.slice a k c) ((V.take j).flatMap Ql).length (u8s ((V.take j).flatMap Ql)):=by rw [<-HR.out.1];exact HR.out.2.1.keep hk2 λ_ _ x=>x
   obtain ⟨a',c',w3,h1,h2,h3,h4⟩:=Zq w0 w2 (.slice a k c) ((V.take j).flatMap Ql) (Ql x) hok HR.out.2.2.1 (HR.out.2.2.2.trans_same hk2) b cb (Own.rd' hown) (by have:=HL.out.1;have:=HL.out.2;have:=HM.out;omega);have e1:(V.take (j+1)).flatMap Ql=(V.take j).flatMap Ql++Ql x:=by rw [HST.out,List.flatMap_append,List.flatMap_cons,List.flatMap_nil,List.append_nil]
   obtain ⟨k2,Mn⟩: ∃k2,k2=((V.take j).flatMap Ql++Ql x).length:=⟨_,rfl⟩;rw [<-Mn] at h1 h2 h3;have HX:=zz h1;have Yz:=zz (show Qzs w0 w3 V (j+1) a' k2 c' from ⟨by rw [e1];exact Mn,by rw [e1];exact h2,h3,h4⟩);clear hown hfr hk2 hok h1 h2 h3 h4 e1 Mn cj Ql2;go_wp2_with (at_builtin;refine wpList_append_run rfl rfl rfl rfl HX.out ?_)
   go_roundw
   case rel=>exact ⟨j+1,a',k2,c',hlt,rfl,by go_num,Yz⟩
   case measure=>simp [intOf];omega
  ·obtain rfl:m=j:=by omega
   have HE:=zz (show Q9m w0 (V.flatMap Ql) (.returned (.slice a k c)) wr from by
    have h:=HR.out;unfold Qzs at h;rw [HM.out,List.take_length] at h;obtain ⟨h1,h2,h3,h4⟩:=h;refine ⟨a,c,by rw [h1],?_,?_,h4⟩
    ·rw [<-h1];exact h2
    ·rw [<-h1];exact h3)
   clear hge;go_wp2_with fail
   go_ret
   exact HE.out
theorem Eg (w:World) (a:Option Addr) (c:Nat) (p:List UInt8) (hr:Rd w w.heap.size a (u8s p)) (hl:p.length<=1000000000):
  Calls Tryz.prog 121 #[.slice a p.length c] w (Q9m w (Jg p)):=by
 obtain ⟨n,hn⟩: ∃n,n=p.length:=⟨_,rfl⟩;have HN:=zz (Kf n (by omega) w);have HP:=zz (And.intro hr hn);have hnn:n<=1000000000:=by omega
 rw [<-hn];clear hr hl hn;go_enter Tryz.func121,Tryz.ntmps121
 go_wp2_with fail
 refine HN.out.mono ?_;rintro e w2 ⟨b,cb,rfl,hown,hfr,hk2⟩;have hln:=Qm (n:=n) (by omega);obtain ⟨a',c',w3,h1,h2,h3,h4⟩:=Zq w w2 (.slice b (Ql n).length cb) (Ql n) p hown hfr hk2 a c (Rd.kp HP.out.1 hk2) (by have:=HP.out.2;omega);have HX:=zz (show (Builtin.append_ #[42,42] 42 #[.slice b (Ql n).length cb, .slice a n c]).run Tryz.prog w2= .ok (.slice a' (Ql n++p).length c') w3 from by rw [HP.out.2] at h1⊢;exact h1)
 have HE:=zz (show Q9m w (Jg p) (.returned (.slice a' (Ql n++p).length c')) w3 from by
  unfold Jg;rw [<-HP.out.2];exact ⟨a',c',rfl,h2,h3,h4⟩)
 obtain ⟨k,hk⟩: ∃k,k=(Ql n).length:=⟨_,rfl⟩;obtain ⟨k2,Mn⟩: ∃k,k=(Ql n++p).length:=⟨_,rfl⟩;rw [<-hk,<-Mn] at HX;rw [<-Mn] at HE;rw [<-hk];clear hown hfr hk2 h1 h2 h3 h4 hln hk Mn HN;go_wp2_with (at_builtin;refine wpList_append_run rfl rfl rfl rfl HX.out ?_)
 go_ret
 exact HE.out
end Go.Proofs.YtgnkmjeoaoongaaGreatDoor
