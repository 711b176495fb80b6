/- store -/
import Derived.Test.YtgnkmjeoaoongaaGreatDoorVc8
set_option maxRecDepth 100000
set_option maxHeartbeats 8000000
namespace Go.Proofs.YtgnkmjeoaoongaaGreatDoor
open Go.RowKit Go.Mer
theorem Nv {w W:World} {s d l o m:Nat} {P:ByteArray} {st stk stB:Ja} {cs csB:Zn} {ka J91:Option Addr} {kc J94:Nat} {K KB:List Qe} {L:List Qu} {B k:Nat} {r:Qu} (hC:X6 W s d l P o stB m csB J91 J94 KB)
  (hF: ∀g,Ve s m csB J91 J94 KB g->Ve s m cs ka kc K g\/w.heap.size<=g) (hK:Kp (Ve s m cs ka kc K) w W) (hlen: ∀p∈csB,p.2.R.length<=B+(k+1)) (hkl:KB.length<=B+(k+1)) (hnext:L.take (k+1)=L.take k++[r]) (Q0k:stk=Jh o st (L.take k))
  (hp:stB.keys.Perm (Z3 stk.keys r.key (E0 (Qw stk.keys r.key) r.v))) (e1:stB.Zc=stk.Zc) (e2:stB.n=stk.n) (e3:stB.dead=stk.dead) (e4:stB.mm=stk.mm) (e5:stB.mc=stk.mc) (e6:stB.of=Z2 stk.of r) (e7:stB.kept=if r.o=(o:Int) then stk.kept++[r] else stk.kept):
  Qiu w s d l P o st m cs ka kc K L B (k+1) W:=by
 refine ⟨csB,J91,J94,KB,?_,hF,hK,hlen,hkl⟩;rw [hnext,Lb,<-Q0k];exact hC.congr hp e1.symm e2.symm e3.symm e4.symm e5.symm e6.symm e7.symm
theorem Qjl {cs:Zn} {k:ByteArray} {b:Nat} (h:Qs cs k=none): ∀g,K6 (Jb cs k ⟨b,none,0,[]⟩) g->K6 cs g\/g=b:=by
 rw [Dv (Z5.1 h)];rintro g ⟨p,hp,hf⟩;rcases List.mem_append.1 hp with hp|hp
 ·exact .inl ⟨p,hp,hf⟩
 ·rw [List.mem_singleton] at hp;subst hp;rcases hf with hf|hf|⟨x,hx,_⟩
  ·exact .inr hf
  ·simp [Zs.row,Value.ownBlock] at hf
  ·exact absurd hx List.not_mem_nil
theorem Qgv {w:World} {s d l o m:Nat} {P:ByteArray} {st:Ja} {cs:Zn} {ka:Option Addr} {kc:Nat} {K:List Qe} (h:X6 w s d l P o st m cs ka kc K) (hinv:Inv o st)
  (a:Option Addr) (cap:Nat) (L:List Qe) (hL: ∀W,Kp (Ve s m cs ka kc K) w W->Y1 W a L) (_hc:L.length<=cap) (hr: ∀r∈L.map Qe.r,Z4 r=true) (hg:Xx st.mm st.mc st.of (L.map Qe.r)=true) (hn:L.length<=64) (B:Nat) (_hB:B<=900000) (hcB: ∀p∈cs,p.2.R.length<=B) (hkB:K.length<=B):
  Calls Tryz.prog 62 #[.pointer (some ⟨s,0,none⟩), .slice a L.length cap] w λe w'=>e= .returned (.tuple #[])/\Qiu w s d l P o st m cs ka kc K (L.map Qe.r) B L.length w':=by
 obtain ⟨n,Xw⟩: ∃n,n=L.length:=⟨_,rfl⟩;have hsl:=Q7 h.cell;have Qx9:=zz (show Qiu w s d l P o st m cs ka kc K (L.map Qe.r) B 0 w from ⟨cs,ka,kc,K,h,λ_ x=> .inl x,Kp.refl _ _,λp hp=>by have:=hcB p hp;omega,by omega⟩);have HL:=zz hL;have HN:=zz Xw;have HR:=zz (And.intro hr (And.intro hg hinv));have hnn:n<=64:=by omega
 rw [<-Xw];clear h hL Xw hr hg hinv _hc hn hcB hkB;go_enter Tryz.func62,Tryz.ntmps62
 go_wp2_with fail
 go_loopw [8] (λi wr=> ∃k:Nat,k<=n/\i= .int .i64 (k:Int)/\Hid (Qiu w s d l P o st m cs ka kc K (L.map Qe.r) B k wr)) (λi _=>n-(intOf i).toNat)
 case atStart=>exact ⟨0,Nat.zero_le _,rfl,Qx9⟩
 case round=>
  obtain ⟨k,hk,rfl,HJ⟩:=hrel;rcases Nat.lt_or_ge k n with hlt|hge
  ·obtain ⟨csA,Ed,Ee,KA,hC,hF,hK,hlen,Q7b⟩:=HJ.out;have Y8:k<L.length:=by have:=HN.out;omega
   have hLr:=HL.out wr hK;obtain ⟨g,off,rfl,hgl,hgr⟩:=Jx hLr.1 Y8;have hxk:(L.map Qe.r)[k]?=some L[k].r:=by rw [List.getElem?_map,List.getElem?_eq_getElem Y8];rfl
   have hxi:=HR.out.1 L[k].r (List.mem_of_getElem? hxk);have hstep:=Q80 HR.out.2.2 HR.out.1 HR.out.2.1 hxk
   have hnext:(L.map Qe.r).take (k+1)=(L.map Qe.r).take k++[L[k].r]:=by
    rw [List.take_succ_eq_append_getElem (by rw [List.length_map];exact Y8),List.getElem_map]
   have Qpx: ∀W,Kp (Ve s m cs ka kc K) w W->L[k].rd W:=λW hW=>(HL.out W hW).2 L[k] (List.getElem_mem Y8);obtain ⟨x,hx⟩: ∃x,x=L[k]:=⟨_,rfl⟩;rw [<-hx] at hgr hxi hstep hnext Qpx;obtain ⟨stk,Q0k⟩: ∃stk,stk=Jh o st ((L.map Qe.r).take k):=⟨_,rfl⟩;rw [<-Q0k] at hstep hC;obtain ⟨Qq1,hso⟩:=hstep;have hmm:stk.mm=st.mm/\stk.mc=st.mc:=by rw [Q0k];exact ⟨(Ef o _ st).2.1,(Ef o _ st).2.2.1⟩
   rw [<-hmm.1,<-hmm.2] at hso;have hhas:=Q57 Qq1 hxi hso;obtain ⟨hcs,Qva⟩:=O2 Qq1 x.r.key;obtain ⟨hv,e1,e2,e3,_⟩:=Y9.1 hxi;obtain ⟨_,o1,o2,_⟩:=Zi.1 hv;obtain ⟨oN,Q3f⟩: ∃oN:Nat,x.r.o=(oN:Int):=⟨x.r.o.toNat,by omega⟩;have A8:oN<5:=by omega
   have hrc:recC x=[.int .i64 (oN:Int), .int .i64 x.r.seq, .string x.r.key, .int .i64 x.r.v.m, .int .i64 x.r.v.c, .int .i64 x.r.v.o,x.sl, .bool x.r.v.gone, .int .i64 x.r.v.ttl]:=by unfold recC;rw [Q3f]
   rw [hrc] at hgr;have R1:=zz (hgr wr zK);obtain ⟨w1,hw1⟩: ∃W,W=wr.alloc (.cells #[.int .i64 (oN:Int), .int .i64 x.r.seq, .string x.r.key, .int .i64 x.r.v.m, .int .i64 x.r.v.c, .int .i64 x.r.v.o,x.sl, .bool x.r.v.gone, .int .i64 x.r.v.ttl] 46):=⟨_,rfl⟩;have k1:Kp No wr w1:=by rw [hw1];exact zK.alloc _
   have b1:w1.heap[wr.heap.size]?=some (.cells #[.int .i64 (oN:Int), .int .i64 x.r.seq, .string x.r.key, .int .i64 x.r.v.m, .int .i64 x.r.v.c, .int .i64 x.r.v.o,x.sl, .bool x.r.v.gone, .int .i64 x.r.v.ttl] 46 (0,0)):=by rw [hw1];exact heap_alloc_new wr _
   obtain ⟨p,hpq⟩: ∃p,p=wr.heap.size:=⟨_,rfl⟩;rw [<-hpq] at b1;have hpn: ¬Ve s m csA Ed Ee KA p:=λhg=>by have:=hC.lt p hg;omega
   have Oy:=zz (hC.Q9 k1);have HB1:=zz b1;have Yq:=zz (show Kp (Ve s m cs ka kc K) w w1 from hK.Qr k1);have Qtr:=zz hF;have Q6f:=zz hpn;have Qxg:=zz (show w.heap.size<=p by rw [hpq];exact hK.size);have Em:=zz (And.intro hlen Q7b);have HW1:=zz hw1;have Qab:=zz Qpx;have HX:=zz (And.intro hxi (And.intro hso (And.intro Qq1 (And.intro Q3f (And.intro hnext Q0k)))));have Qnx:=zz (And.intro hcs (And.intro hv hhas));have hs1:=Q7 Oy.out.cell;have hp1:=Q7 b1;have f7: ∀W,Kp No w1 W->W.cell? ⟨s,7,none⟩=some (.map (some m)):=λW hW=>Oy.out.at_ hW 7;have fp2: ∀W,Kp No w1 W->W.cell? ⟨p,2,none⟩=some (.string x.r.key):=λW hW=>Q4 (hW.get HB1.out λx=>x) 2;have lk: ∀W,Kp No w1 W->(Instr.lookup 128 (.map (some m)) (.string x.r.key) false).run Tryz.prog W= .ok ((Qs (Vr csA) x.r.key).getD (.pointer none)) W:=λW hW=>G4 (Oy.out.map.of_heap (hW.block m Oy.out.map.lt λx=>x)) x.r.key;have hch:=Oy.out.chain x.r.key;have hg3:=hgl;clear hC hF hK hlen Q7b hLr hgr hxk hxi hnext Qpx hx Qq1 hso hmm hhas hcs Qva hv e1 e2 e3 o1 o2 Q3f hrc k1 b1 hw1 hpn Q0k Y8 hgl HJ
   go_upto_region 3 with (first
    |(refine Qj rfl 46 _ rfl g (off+k*9) rfl _ _ R1 Tryz.underlying46 rfl (by kernel_rfl) ?_)
    |(refine Qy rfl 46 _ _ rfl wr.heap.size (by rfl) _ _ _ rfl rfl (by kernel_rfl) (by rfl) (by rfl) ?_))
   rw [<-HW1.out,<-hpq];clear hpq hg3;cases hgg:Qs csA x.r.key with
   |some cA=>
    rw [Vt,hgg] at lk;rw [hgg] at hch;simp only [Option.map_some,Option.getD_some,Vk] at lk;refine zD No [0,0,0,0,0,0,0,0] [0,1,2,3,4,5,6,7] ?_;repeat (first|refine zA ?_|refine zB ?_|refine zC ?_)
    (try (apply Qb rfl rfl rfl;(focus (intro W hW;go_simp;rw [lk W hW];rfl));(focus (go_simp;rfl))))
    repeat (first|refine zA ?_|refine zB ?_|refine zC ?_)
    refine Qa (λnq=>?_);obtain ⟨w5,hw5⟩: ∃W,W=w1.drewN nq:=⟨_,rfl⟩;have h15:Kp No w1 w5:=by rw [hw5];exact (Kp.refl No w1).drewN nq
    obtain ⟨stA,Q4y⟩: ∃stA,stA=stk:=⟨_,rfl⟩;have Hv:=zz (show X6 w5 s d l P o stA m csA Ed Ee KA from by rw [Q4y];exact Oy.out.Q9 h15);have Q61:=zz hgg;have Q2u:=zz (h15.get HB1.out λx=>x);have Qd0:=Qtr;have Vb:=zz (show Kp (Ve s m cs ka kc K) w w5 from Yq.out.Qr h15);have Q2j:=Q6f;have hcv:Qw stk.keys x.r.key=cA.vs:=by unfold Qw;rw [hch];rfl
    have Mn:=zz (show cA.vs=Qw stk.keys x.r.key/\Q45 cA.vs/\X8 x.Qi6.v=true/\V8 cA.vs x.Qi6.v=false/\cA.R.length<=1000000 from by
     rw [<-hcv];refine ⟨rfl,Qnx.out.1,Qnx.out.2.1,Qnx.out.2.2,?_⟩;have h2:=Em.out.1 _ (Jc hgg);have h2:cA.R.length<=B+k:=h2;omega)
    have Qf2:=zz (show Yy stA.keys from by rw [Q4y];exact HX.out.2.2.1.sorted)
    have D6:=zz (show (Z3 stA.keys x.r.key (E0 cA.vs x.r.v)).Perm (Z3 stk.keys x.r.key (E0 (Qw stk.keys x.r.key) x.r.v))/\(stA.of=stk.of/\stA.kept=stk.kept/\stA.Zc=stk.Zc/\stA.n=stk.n/\stA.dead=stk.dead/\stA.mm=stk.mm/\stA.mc=stk.mc) from by
     rw [Q4y,hcv];exact ⟨List.Perm.refl _,rfl,rfl,rfl,rfl,rfl,rfl,rfl⟩)
    rw [<-hw5];clear hw5 h15 Q4y hgg hch hcv lk f7 fp2 hs1 hp1 Oy HB1 Qtr Yq Q6f;go_wp2_with fail
    have hgm:=Jc Q61.out;have hco:=Hv.out.Fx.each _ hgm;have Qbv:=Hv.out.F7.1;have hs5:=Q7 Hv.out.cell;have Qq7:=Q7 Q2u.out;have Qkj:s≠cA.b:=λe=>Qbv ⟨_,hgm, .inl e⟩;have Qkl:cA.row.ownBlock≠some s:=λe=>Qbv ⟨_,hgm, .inr (.inl e)⟩;have Qbe:p≠cA.b:=λe=>Q2j.out (.inr (.inr (.inl ⟨_,hgm, .inl e⟩)));have Qbf:cA.row.ownBlock≠some p:=λe=>Q2j.out (.inr (.inr (.inl ⟨_,hgm, .inr (.inl e)⟩)));have Qbn:=Hv.out.Qg7 hgm;obtain ⟨SS,hSS⟩: ∃S:Nat->Prop,∀g,S g↔(g=cA.b\/cA.row.ownBlock=some g):=⟨_,λ_=>Iff.rfl⟩;have f7: ∀W,Kp SS w5 W->W.cell? ⟨s,7,none⟩=some (.map (some m)):=λW hW=>(hW.cell (p:=⟨s,7,none⟩) hs5 λh=>((hSS _).1 h).elim Qkj Qkl).trans (Hv.out.at_ zK 7);have fp2: ∀W,Kp SS w5 W->W.cell? ⟨p,2,none⟩=some (.string x.r.key):=λW hW=>(hW.cell (p:=⟨p,2,none⟩) Qq7 λh=>((hSS _).1 h).elim Qbe Qbf).trans (Q4 Q2u.out 2)
    have lk: ∀W,Kp SS w5 W->(Instr.lookup 128 (.map (some m)) (.string x.r.key) false).run Tryz.prog W= .ok (.pointer (some ⟨cA.b,0,none⟩)) W:=λW hW=>by
     rw [G4 (Hv.out.map.of_heap (hW.block m Hv.out.map.lt λh=>((hSS _).1 h).elim Qbn.1 Qbn.2)) x.r.key,Vt,Q61.out];rfl
    have RV:=zz (show ∀W,Kp SS w5 W->W.rangeAt p 3 (Qv x.Qi6) from λW hW j u hu=>by
     have h1:=Qg Q2u.out 3 6 j u hu;rw [hW.cell (p:=⟨p,3+j,none⟩) Qq7 λh=>((hSS _).1 h).elim Qbe Qbf];exact h1)
    have hput:=λq=>Q6t (w5.drewN q) cA x.Qi6 (hco.Q9 ((Kp.refl No w5).drewN q)) Mn.out.2.1 ((Qm.X0 (Qab.out w5 Vb.out) ((Kp.refl No w5).drewN q))) Mn.out.2.2.1 Mn.out.2.2.2.1 Mn.out.2.2.2.2;simp only [Yk] at hput;have Qs5:=zz hput;have Qhz:=zz hSS;clear hSS hgm hco Qbv Qkj Qkl Qbe Qbf Qbn hput;go_upto_region 5 with fail
    refine zD SS [0,0,0,0,0,0,0,0,0,2,0,2] [0,1,2,3,4,5,6,7,8,9,10,11] ?_;repeat (first|refine zA ?_|refine zB ?_|refine zC ?_)
    (try (apply Qb rfl rfl rfl;(focus (intro W hW;go_simp;rw [lk W hW];rfl));(focus (go_simp;rfl))))
    repeat (first|refine zA ?_|refine zB ?_|refine zC ?_)
    apply Qb rfl rfl rfl
    ·intro W hW;exact Qc 44 _ rfl p 3 rfl (Qv x.Qi6) _ (RV.out W hW) Tryz.underlying44 rfl (by kernel_rfl)
    ·(focus (go_simp;rfl))
    refine Q8 rfl rfl (λq5=>?_);go_wp2_with fail
    refine (Qs5.out q5).mono ?_;rintro e w6 ⟨rfl,c6,Q2o⟩;have My:Kp SS w5 w6:=Q2o.kp.Qf.mono λg _ h=>(Qhz.out g).2 h;have Ma:=zz Q2o;clear Q2o Qs5;go_wp2_with fail
    (try refine ⟨My,?_⟩)
    repeat (first|refine zA ?_|refine zB ?_|refine zC ?_)
    refine Q8 rfl rfl (λq6=>?_);go_wp2_with fail
    refine (N7 3 _).mono ?_;rintro e w7 ⟨rfl,rfl⟩;go_wp2_with fail
    (try refine ⟨My.drewN q6,?_⟩)
    repeat (first|refine zA ?_|refine zB ?_|refine zC ?_)
    refine Qa (λnq=>?_);have My:Kp (λg=>g=cA.b\/cA.row.ownBlock=some g) w5 w6:=My.mono λg _ h=>(Qhz.out g).1 h;have J2d:Yy stA.keys:=Qf2.out
    have Qpt:=Hv.out.Iz (w':=w6) (c':=c6) J2d Q61.out Ma.out.b My Ma.out.ok (Ma.out.row.imp id λ⟨g,e,hg⟩ g' hg'=>by
     rw [e] at hg';injection hg' with hg';have hg:w5.heap.size<=g:=hg;omega)
    obtain ⟨w8,hw8⟩: ∃W,W=(w6.drewN q6).drewN nq:=⟨_,rfl⟩;have h68:Kp No w6 w8:=by rw [hw8];exact ((Kp.refl No w6).drewN q6).drewN nq
    have Qa7:=zz (Qpt.Q9 h68);have Qbi:Kp (λg=>g=cA.b\/cA.row.ownBlock=some g) w5 w8:=My.Qr h68;have Gc:=zz (Qbi.get Q2u.out λh=>h.elim (λe=>Q2j.out (.inr (.inr (.inl ⟨_,Jc Q61.out, .inl e⟩)))) λe=>Q2j.out (.inr (.inr (.inl ⟨_,Jc Q61.out, .inr (.inl e)⟩))))
    have Qb7: ∀g,K6 (Jb csA x.r.key c6) g->K6 csA g\/w5.heap.size<=g:=Q6v (w:=w5) Q61.out Hv.out.Fx.keys Ma.out.b (Ma.out.row.imp id λ⟨g,e,hg⟩ g' hg'=>by
     rw [e] at hg';injection hg' with hg';have hg:w5.heap.size<=g:=hg;omega) (λy hy=>(Ma.out.vals y hy).imp id λhn g hg=>hn g hg)
    have Bp:=zz (show ∀g,Ve s m (Jb csA x.r.key c6) Ed Ee KA g->Ve s m cs ka kc K g\/w.heap.size<=g from λg hg=>by
     rcases hg with hg|hg|hg|hg
     ·exact Qd0.out g (.inl hg)
     ·exact Qd0.out g (.inr (.inl hg))
     ·rcases Qb7 g hg with hg|hg
      ·exact Qd0.out g (.inr (.inr (.inl hg)))
      ·have:=Vb.out.size;exact .inr (by omega)
     ·exact Qd0.out g (.inr (.inr (.inr hg))))
    have Ks:=zz (show Kp (Ve s m cs ka kc K) w w8 from Vb.out.trans Qbi λi hi hS=>by
     have hin:Ve s m csA Ed Ee KA i:= .inr (.inr (.inl ⟨_,Jc Q61.out,hS.imp id λe=> .inl e⟩));rcases Qd0.out i hin with h1|h1
     ·exact h1
     ·omega)
    have Qo0:=zz (show ¬Ve s m (Jb csA x.r.key c6) Ed Ee KA p from λhg=>by
     rcases hg with hg|hg|hg|hg
     ·exact Q2j.out (.inl hg)
     ·exact Q2j.out (.inr (.inl hg))
     ·rcases Qb7 p hg with hg|hg
      ·exact Q2j.out (.inr (.inr (.inl hg)))
      ·omega
     ·exact Q2j.out (.inr (.inr (.inr hg))))
    have Qij:=zz (show ∀q∈Jb csA x.r.key c6,q.2.R.length<=B+(k+1) from by
     refine Nl (Q:=λc=>c.R.length<=B+(k+1)) (λq hq=>Nat.le_succ_of_le (Em.out.1 q hq)) ?_;have h1:=congrArg List.length Ma.out.vs;unfold Zs.vs at h1;rw [List.length_map,Fp,List.length_map] at h1;have h2:=Em.out.1 _ (Jc Q61.out);have h2:cA.R.length<=B+k:=h2;omega)
    have Qzm:=zz (show c6.vs=E0 cA.vs x.r.v from Ma.out.vs);rw [<-hw8];clear hw8 h68 Qbi Qb7 Qpt My Ma f7 fp2 lk RV hs5 Qq7 J2d Q2u Qd0 Vb;have hs8:=Q7 Qa7.out.cell;have Qvv:=Q7 Gc.out;have hps:p≠s:=λe=>Qo0.out (.inl e);have d0: ∀W,Kp (Mer.One s) w8 W->W.cell? ⟨p,0,none⟩=some (.int .i64 (oN:Int)):=λW hW=>Q4 (hW.get Gc.out λe=>hps e) 0;have d1: ∀W,Kp (Mer.One s) w8 W->W.cell? ⟨p,1,none⟩=some (.int .i64 x.r.seq):=λW hW=>Q4 (hW.get Gc.out λe=>hps e) 1;have RT:=zz (show ∀W,Kp (Mer.One s) w8 W->W.rangeAt p 3 [.int .i64 x.r.v.m, .int .i64 x.r.v.c] from λW hW=>by have:=Qg (hW.get Gc.out λe=>hps e) 3 2;exact this);go_upto_region 6 with fail
    refine zD (Mer.One s) [0,0,0,0,0,0,0,0,0,0,0,0,2] [0,1,2,3,4,5,6,7,8,9,10,11,12] ?_;repeat (first|refine zA ?_|refine zB ?_|refine zC ?_)
    apply Qb rfl rfl rfl
    ·intro W hW;exact Qc 25 _ rfl p 3 rfl [.int .i64 x.r.v.m, .int .i64 x.r.v.c] _ (RT.out W hW) Tryz.underlying25 rfl (by kernel_rfl)
    ·(focus (go_simp;rfl))
    repeat (first|refine zA ?_|refine zB ?_|refine zC ?_)
    apply Qb rfl rfl rfl
    ·(focus (intro _ _;go_simp;rw [if_pos (show ((oN:Nat):Int)<5 from Int.ofNat_lt.2 A8)]))
    ·(focus (go_simp;rfl))
    refine Q8 rfl rfl (λq8=>?_);obtain ⟨w9,Mc⟩: ∃W,W=w8.drewN q8:=⟨_,rfl⟩;have Q63:Kp No w8 w9:=by rw [Mc];exact (Kp.refl No w8).drewN q8
    have Gl:=Q63.get Qa7.out.cell λx=>x
    have M3:w9.rangeAt s 10 (Mf stA.of):=by
     have:=Qg Gl 10 15;rwa [Qej] at this
    have g3:=U9 stA.of A8;have g0:w9.cell? ⟨s,10+oN*3,none⟩=some (.int .i64 (Qn stA.of oN).seq):=M3 _ _ g3.1;have g1:w9.cell? ⟨s,10+oN*3+1,none⟩=some (.int .i64 (Qn stA.of oN).m):=M3 _ _ g3.2.1;have g2:w9.cell? ⟨s,10+oN*3+2,none⟩=some (.int .i64 (Qn stA.of oN).c):=M3 _ _ g3.2.2;have f0:=Qh Gl (10+oN*3);have f1:=Qh Gl (10+oN*3+1);have f2:=Qh Gl (10+oN*3+2);have hs9:=Q7 Gl;have Qa8:=zz (Qa7.out.Q9 Q63);have Qy9:=zz (Q63.get Gc.out λx=>x);have Q6d:=zz Q63;rw [<-Mc];clear Mc Q63 Gl M3 g3;go_wp2_with fail
    have Q7e:stA.of.length=5:=by rw [D6.out.2.1];exact HX.out.2.2.1.Qoe
    have Q0j:=Qa8.out.setOf (dn:=⟨x.r.seq,x.r.v.m,x.r.v.c⟩) Q7e A8;obtain ⟨wA,hwA⟩: ∃W,W=(((w9.setCell ⟨s,10+oN*3,none⟩ (.int .i64 x.r.seq)).setCell ⟨s,10+oN*3+1,none⟩ (.int .i64 x.r.v.m)).setCell ⟨s,10+oN*3+2,none⟩ (.int .i64 x.r.v.c)):=⟨_,rfl⟩
    have kA:Kp (Mer.One s) w8 wA:=by
     rw [hwA];exact (((Kp.Qx Q6d.out).setCell (p:=⟨s,10+oN*3,none⟩) (.inl (show Mer.One s s from rfl)) _).setCell (p:=⟨s,10+oN*3+1,none⟩) (.inl (show Mer.One s s from rfl)) _).setCell (p:=⟨s,10+oN*3+2,none⟩) (.inl (show Mer.One s s from rfl)) _
    rw [<-hwA] at Q0j;rw [<-hwA];clear g0 g1 g2 f0 f1 f2 hwA Q7e d0 d1;have Dc:=zz kA;refine ⟨kA,?_⟩;refine Qa (λnq=>?_);obtain ⟨wB,hwB⟩: ∃W,W=wA.drewN nq:=⟨_,rfl⟩;have Cd:Kp No wA wB:=by rw [hwB];exact (Kp.refl No wA).drewN nq
    obtain ⟨stB,Q7h,Qsm⟩: ∃stB:Ja,stB={{stA with keys:=Z3 stA.keys x.r.key c6.vs} with of:=stA.of.set oN ⟨x.r.seq,x.r.v.m,x.r.v.c⟩}/\X6 wB s d l P o stB m (Jb csA x.r.key c6) Ed Ee KA:=⟨_,rfl,Q0j.Q9 Cd⟩;have Xd:=zz Q7h;have Oz:=zz Qsm;have Gd:=zz (Cd.get (kA.get Gc.out λe=>hps e) λx=>x);have HKB:=zz (show Kp (Ve s m cs ka kc K) w wB from (Ks.out.trans kA λ_ _ e=> .inl e).Qr Cd);rw [<-hwB];clear hwB Cd Q7h Qsm Q0j kA Qa8 Qy9 Q6d Qa7 Gc Ks RT hs8 Qvv hs9;go_wp2_with fail
    have hsB:=Q7 Oz.out.cell;have Qi3:=Q7 Gd.out;have d0: ∀W,Kp No wB W->W.cell? ⟨p,0,none⟩=some (.int .i64 (oN:Int)):=λW hW=>Q4 (hW.get Gd.out λx=>x) 0;have d3: ∀W,Kp No wB W->W.cell? ⟨s,3,none⟩=some (.int .i64 (o:Int)):=λW hW=>Oz.out.at_ hW 3;by_cases Bb:oN=o
    ·have e1:((oN:Int)==(o:Int))=true:=by rw [beq_iff_eq,Bb]
     have e1':(oN==o)=true:=by rw [beq_iff_eq,Bb]
     have Qil:=zz Bb;clear Bb;refine zD No [0,0,0,0,0,0,0] [0,1,2,3,4,5,6] ?_;repeat (first|refine zA ?_|refine zB ?_|refine zC ?_)
     refine Qa (λnq=>?_);obtain ⟨wC,Q7j⟩: ∃W,W=wB.drewN nq:=⟨_,rfl⟩;have Q7r:Kp No wB wC:=by rw [Q7j];exact (Kp.refl No wB).drewN nq
     rw [<-Q7j];clear d0 d3;have bC:=Q7r.get Gd.out λx=>x;have J0b:wC.cell? ⟨p,6,none⟩=some (.slice x.a x.r.v.val.length x.cap):=Q4 bC 6;have Qvw:=Q7 bC;have hLx:=Qab.out wC (HKB.out.Qr Q7r);have hvl:x.r.v.val.length<=1024:=(Zi.1 (Y9.1 HX.out.1).1).2.2.2.1;have hcl:=Dm x.a x.cap x.r.v.val wC.heap.size wC hLx.1 (by omega);have Qa9:=zz hcl;have Qya:=zz bC;have Q2i:=zz Q7r;clear Q7j Q7r bC hLx hcl hvl;go_wp2_with fail
     refine Qa9.out.mono ?_;rintro e7 w7 ⟨v7,rfl,hown,Ca,Q79⟩;obtain ⟨J2n,a7,c7,rfl,Qkf,Qkg,Qkh⟩:=id hown;have b7:=Ca.get Qya.out λx=>x;have f6:=Qh b7 6;have g6:w7.cell? ⟨p,6,none⟩=some (.slice x.a x.r.v.val.length x.cap):=Q4 b7 6;have J24:=Q7 b7;obtain ⟨wD,hwD⟩: ∃W,W=w7.setCell ⟨p,6,none⟩ (.slice a7 x.r.v.val.length c7):=⟨_,rfl⟩;have kD:Kp (Mer.One p) w7 wD:=by rw [hwD];exact (Kp.refl (Mer.One p) w7).setCell (p:=⟨p,6,none⟩) (.inl (show Mer.One p p from rfl)) _
     have bD:wD.heap[p]?=some (.cells #[.int .i64 (oN:Int), .int .i64 x.r.seq, .string x.r.key, .int .i64 x.r.v.m, .int .i64 x.r.v.c, .int .i64 x.r.v.o, .slice a7 x.r.v.val.length c7, .bool x.r.v.gone, .int .i64 x.r.v.ttl] 46 (0,0)):=by
      rw [hwD,Ql b7];rfl
     have Bc:Qe.ok ⟨x.r,a7,c7⟩ wD:=Own.keep hown kD λg hg e=>by
      obtain ⟨cur,J5⟩:=hown.type g hg;exact Qd J5 b7 (by decide) e
     have J5s:=zz Bc
     have Bq:=zz (show ∀g,(Qe.sl ⟨x.r,a7,c7⟩).ownBlock=some g->w.heap.size<=g from λg hg=>by
      have h1:=Q79 g hg;have h2:=HKB.out.size;have h3:=Q2i.out.size;omega)
     have Q2v:=zz ((Oz.out.Q9 (Q2i.out.Q0 Ca)).keep kD λg hg e=>Qo0.out ((show g=p from e)▸hg))
     have D3:=zz (show Kp (Ve s m cs ka kc K) w wD from ((HKB.out.Qr Q2i.out).Qr Ca).trans kD λi hi e=>by
      have:=Qxg.out;have e:i=p:=e;omega)
     have Qs0:=zz bD;have Qsb:=zz hwD;clear J2n Qkf Qkg Qkh hown Ca Q79 kD bD hwD b7 Bc Qa9 Qya Q2i J0b Qvw Oz Gd HKB hsB Qi3;go_upto_region 9 with fail
     rw [<-Qsb.out];clear f6 g6 J24 Qsb;have J7w:=Em.out.2;have HQ:=zz (show ∀g,(Value.slice Ed KA.length Ee).ownBlock=some g->g≠p/\g≠s from λg hg=>⟨λe=>Qo0.out (e▸ .inr (.inr (.inr (.inl hg)))),λe=>Q2v.out.F7.2 (e▸ .inl hg)⟩)
     have q1: ∀W,Kp (λg=>(Value.slice Ed KA.length Ee).ownBlock=some g) wD W->W.cell? ⟨s,25,none⟩=some (.slice Ed KA.length Ee):=λW hW=>by
      rw [Q4 (hW.get Q2v.out.cell λhs=>(HQ.out s hs).2 rfl)];rfl
     have R5:=zz (show ∀W,Kp (λg=>(Value.slice Ed KA.length Ee).ownBlock=some g) wD W->W.rangeAt p 0 [.int .i64 (oN:Int), .int .i64 x.r.seq, .string x.r.key, .int .i64 x.r.v.m, .int .i64 x.r.v.c, .int .i64 x.r.v.o, .slice a7 x.r.v.val.length c7, .bool x.r.v.gone, .int .i64 x.r.v.ttl] from λW hW=>by
      have:=Qg (hW.get Qs0.out λhs=>(HQ.out p hs).1 rfl) 0 9;exact this)
     refine Jk (Kp (λg=>(Value.slice Ed KA.length Ee).ownBlock=some g) wD) [0,0,0,0,0,0,2,2,0,0,2] [0,1,2,3,4,5,6,7,8,9] 10 (by kernel_rfl) (by kernel_rfl) (λ_ n h=>h.drewN n) zK ?_;repeat (first|refine zA ?_|refine zB ?_|refine zC ?_)
     refine Qb rfl rfl rfl (v:= .agg #[.int .i64 (oN:Int), .int .i64 x.r.seq, .string x.r.key, .int .i64 x.r.v.m, .int .i64 x.r.v.c, .int .i64 x.r.v.o, .slice a7 x.r.v.val.length c7, .bool x.r.v.gone, .int .i64 x.r.v.ttl]) (λW0 hW=>Qc 46 _ rfl p 0 rfl _ _ (R5.out W0 hW) Tryz.underlying46 rfl (by kernel_rfl)) rfl ?_;refine Q8 rfl rfl (λn1=>?_);go_wp2_with fail
     obtain ⟨W8,Q64⟩: ∃W,W=(wD.drewN n1).alloc (.cells #[.int .i64 (oN:Int), .int .i64 x.r.seq, .string x.r.key, .int .i64 x.r.v.m, .int .i64 x.r.v.c, .int .i64 x.r.v.o, .slice a7 x.r.v.val.length c7, .bool x.r.v.gone, .int .i64 x.r.v.ttl] 46):=⟨_,rfl⟩;have k8:Kp No wD W8:=by rw [Q64];exact (zK.drewN _).alloc _
     have b8:W8.heap[wD.heap.size]?=some (.cells #[.int .i64 (oN:Int), .int .i64 x.r.seq, .string x.r.key, .int .i64 x.r.v.m, .int .i64 x.r.v.c, .int .i64 x.r.v.o, .slice a7 x.r.v.val.length c7, .bool x.r.v.gone, .int .i64 x.r.v.ttl] 46 (0,0)):=by rw [Q64];exact heap_alloc_new (wD.drewN n1) _
     rw [<-Q64];clear Q64;refine ⟨Kp.Qx k8,?_⟩;refine Q8 rfl rfl (λn2=>?_);have hxo:(⟨x.r,a7,c7⟩:Qe).r.o=(oN:Int):=HX.out.2.2.2.1;obtain ⟨a9,c9,W9,hrun,Q0f,hk9,Gl⟩:=Oh (T:=26) (E:=46) (sz:=9) (bytes:=96) Tryz.underlying26 Ob (V:=W8.drewN n2) (Q2v.out.kept.own.keep (k8.drewN n2) λ_ _ x=>x) (news:=recC ⟨x.r,a7,c7⟩) (G5 _) rfl (g:=wD.heap.size) (cs:= #[.int .i64 (oN:Int), .int .i64 x.r.seq, .string x.r.key, .int .i64 x.r.v.m, .int .i64 x.r.v.c, .int .i64 x.r.v.o, .slice a7 x.r.v.val.length c7, .bool x.r.v.gone, .int .i64 x.r.v.ttl]) b8 (by unfold recC;rw [hxo];rfl) (by omega) (by omega);have Qa0:=zz hrun;have k9:Kp (λg=>(Value.slice Ed KA.length Ee).ownBlock=some g) wD W9:=(Kp.Qx (k8.drewN n2)).Q0 hk9;have Qo8:wD.heap.size<=(W8.drewN n2).heap.size:=(k8.drewN n2).size;clear hrun hk9;refine wpList_append_run rfl rfl rfl rfl Qa0.out (wpList_nil ⟨rfl,k9,?_⟩);clear Qa0 q1;repeat (first|refine zA ?_|refine zB ?_|refine zC ?_)
     refine Yu (λn4=>?_);refine Q8 rfl rfl (λn5=>?_);obtain ⟨Wa,hWa⟩: ∃W,W=(W9.drewN n4).drewN n5:=⟨_,rfl⟩;have Qsx:=Q0f.keep (show Kp No W9 Wa by rw [hWa];exact ((Kp.refl No W9).drewN n4).drewN n5) λ_ _ x=>x;have Qdz:Kp (λg=>(Value.slice Ed KA.length Ee).ownBlock=some g) wD Wa:=by rw [hWa];exact (k9.drewN n4).drewN n5
     have hba:(Value.slice a9 (KA.length+1) c9).ownBlock=(Value.slice Ed KA.length Ee).ownBlock\/ ∃g,(Value.slice a9 (KA.length+1) c9).ownBlock=some g/\wD.heap.size<=g:=Gl.imp id λ⟨g,e,hg⟩=>⟨g,e,Nat.le_trans Qo8 hg⟩;have hcE:=Q2v.out.Ie (x:=⟨x.r,a7,c7⟩) Qdz Qsx hba J5s.out;have bs:=Qdz.get Q2v.out.cell λhs=>(HQ.out s hs).2 rfl;have hsa:=Q7 bs;have f25:=Qh bs 25;have J6s:Wa.cell? ⟨s,25,none⟩=some (.slice Ed KA.length Ee):=by rw [Q4 bs];rfl
     have Hx:=zz (show Kp (Ve s m cs ka kc K) w (Wa.setCell ⟨s,25,none⟩ (.slice a9 (KA.length+1) c9)) from (D3.out.trans Qdz λi hi hS=>by
      rcases Bp.out i (.inr (.inr (.inr (.inl hS)))) with h1|h1
      ·exact h1
      ·omega).setCell (p:=⟨s,25,none⟩) (.inl (.inl rfl)) _)
     have Q47:=zz hcE
     have Qrz:=zz (show ∀g,(Value.slice a9 (KA.length+1) c9).ownBlock=some g->(Value.slice Ed KA.length Ee).ownBlock=some g\/w.heap.size<=g from λg hg=>by
      rcases hba with h1|⟨g',h1,h2⟩
      ·exact .inl (h1▸hg)
      ·rw [hg] at h1;injection h1 with h1;have:=D3.out.size;exact .inr (by omega))
     rw [<-hWa];clear hWa Qsx Qdz k9 k8 b8 Q0f Gl Qo8 hba hcE bs hxo R5 D3 Q2v Qs0;go_wp2_with fail
     intro nr;obtain ⟨wE,hwE⟩: ∃W,W=(Wa.setCell ⟨s,25,none⟩ (.slice a9 (KA.length+1) c9)).drewN nr:=⟨_,rfl⟩;have hEE:Kp No (Wa.setCell ⟨s,25,none⟩ (.slice a9 (KA.length+1) c9)) wE:=by rw [hwE];exact (Kp.refl No _).drewN nr
     have Q7d:x.r.o.toNat=oN:=by rw [HX.out.2.2.2.1];rfl
     have Qig:=zz (Nv (Q47.out.Q9 hEE) (λg hg=>by
      rcases hg with hg|hg|hg|hg|⟨y,hy,hg⟩
      ·exact Bp.out g (.inl hg)
      ·exact Bp.out g (.inr (.inl hg))
      ·exact Bp.out g (.inr (.inr (.inl hg)))
      ·rw [List.length_append,List.length_singleton] at hg;rcases Qrz.out g hg with h1|h1
       ·exact Bp.out g (.inr (.inr (.inr (.inl h1))))
       ·exact .inr h1
      ·rcases List.mem_append.1 hy with hy|hy
       ·exact Bp.out g (.inr (.inr (.inr (.inr ⟨y,hy,hg⟩))))
       ·rw [List.mem_singleton] at hy;rw [hy] at hg;exact .inr (Bq.out g hg)) (Hx.out.Qr hEE) Qij.out (by rw [List.length_append,List.length_singleton];omega) HX.out.2.2.2.2.1 HX.out.2.2.2.2.2 (by rw [Xd.out,Qzm.out];exact D6.out.1) (by rw [Xd.out];exact D6.out.2.2.2.1) (by rw [Xd.out];exact D6.out.2.2.2.2.1) (by rw [Xd.out];exact D6.out.2.2.2.2.2.1) (by rw [Xd.out];exact D6.out.2.2.2.2.2.2.1) (by rw [Xd.out];exact D6.out.2.2.2.2.2.2.2) (by rw [Xd.out,<-D6.out.2.1];unfold Z2;rw [Q7d]) (by rw [Xd.out,if_pos (by rw [HX.out.2.2.2.1,Qil.out]),<-D6.out.2.2.1]))
     rw [<-hwE];clear hwE hEE Q7d f25 J6s hsa Hx Q47 Qrz;go_wp2_with fail
     go_roundw
     case rel=>exact ⟨k+1,hlt,by go_num,Qig⟩
     case measure=>simp [intOf];omega
    ·have e1:((oN:Int)==(o:Int))=false:=by rw [beq_eq_false_iff_ne];exact λe=>Bb (by omega)
     have e1':(oN==o)=false:=by rw [beq_eq_false_iff_ne];exact Bb
     have Qil:=zz Bb;clear Bb;refine zD No [0,0,0,0,0,0,0] [0,1,2,3,4,5,6] ?_;repeat (first|refine zA ?_|refine zB ?_|refine zC ?_)
     refine Qa (λnq=>?_);obtain ⟨wE,hwE⟩: ∃W,W=wB.drewN nq:=⟨_,rfl⟩;have hEE:Kp No wB wE:=by rw [hwE];exact (Kp.refl No wB).drewN nq
     have Q7d:x.r.o.toNat=oN:=by rw [HX.out.2.2.2.1];rfl
     have Qig:=zz (Nv (Oz.out.Q9 hEE) Bp.out (HKB.out.Qr hEE) Qij.out (by have:=Em.out.2;omega) HX.out.2.2.2.2.1 HX.out.2.2.2.2.2 (by rw [Xd.out,Qzm.out];exact D6.out.1) (by rw [Xd.out];exact D6.out.2.2.2.1) (by rw [Xd.out];exact D6.out.2.2.2.2.1) (by rw [Xd.out];exact D6.out.2.2.2.2.2.1) (by rw [Xd.out];exact D6.out.2.2.2.2.2.2.1) (by rw [Xd.out];exact D6.out.2.2.2.2.2.2.2) (by rw [Xd.out,<-D6.out.2.1];unfold Z2;rw [Q7d]) (by rw [Xd.out,if_neg (λe=>Qil.out (by rw [HX.out.2.2.2.1] at e;omega)),<-D6.out.2.2.1]));rw [<-hwE];clear hwE hEE Q7d d0 d3 Oz Gd HKB hsB Qi3;go_wp2_with fail
     go_roundw
     case rel=>exact ⟨k+1,hlt,by go_num,Qig⟩
     case measure=>simp [intOf];omega
   |none=>
    rw [Vt,hgg] at lk;rw [hgg] at hch;simp only [Option.map_none,Option.getD_none] at lk;refine zD No [0,0,0,0,0,0,0,0] [0,1,2,3,4,5,6,7] ?_;repeat (first|refine zA ?_|refine zB ?_|refine zC ?_)
    (try (apply Qb rfl rfl rfl;(focus (intro W hW;go_simp;rw [lk W hW];rfl));(focus (go_simp;rfl))))
    repeat (first|refine zA ?_|refine zB ?_|refine zC ?_)
    refine Qa (λnq=>?_);obtain ⟨w2,hw2⟩: ∃W,W=w1.drewN nq:=⟨_,rfl⟩;have h12:Kp No w1 w2:=by rw [hw2];exact (Kp.refl No w1).drewN nq
    rw [<-hw2];clear hw2 lk;have HC2:=zz (Oy.out.Q9 h12);have HB2:=zz (h12.get HB1.out λx=>x);have J9:=zz (show Kp (Ve s m cs ka kc K) w w2 from Yq.out.Qr h12);have hs2:=Q7 HC2.out.cell;have hp2:=Q7 HB2.out;have hsm:s≠m:=λe=>HC2.out.Q1g e;have hpm:p≠m:=λe=>Q6f.out (.inr (.inl e));have f7: ∀W,Kp (Mer.One m) w2 W->W.cell? ⟨s,7,none⟩=some (.map (some m)):=λW hW=>(hW.cell (p:=⟨s,7,none⟩) hs2 hsm).trans (HC2.out.at_ zK 7);have fp2: ∀W,Kp (Mer.One m) w2 W->W.cell? ⟨p,2,none⟩=some (.string x.r.key):=λW hW=>Q4 (hW.get HB2.out hpm) 2;have J5e:=zz hgg;have Qx6:=zz hch;clear h12 Oy HB1 Yq hs1 hp1 hgg hch;go_upto_region 4 with fail
    refine zD (Mer.One m) [0,0,0,0,0,0,2,0,0,0,2] [0,1,2,3,4,5,6,7,8,9,10] ?_;repeat (first|refine zA ?_|refine zB ?_|refine zC ?_)
    refine Q8 rfl rfl (λq1=>?_);go_wp2_with fail
    refine (Qp7 _).mono ?_;rintro e w3 ⟨b,rfl,J22,hb3,hk3⟩;have k3:Kp No w2 w3:=hk3.Qf;have J0u:w2.heap.size<=b:=hb3;have Qz3:=zz J22;have HB3:=zz J0u;clear hk3 J22 hb3 J0u;go_wp2_with fail
    (try refine ⟨Kp.Qx k3,?_⟩)
    repeat (first|refine zA ?_|refine zB ?_|refine zC ?_)
    refine Q8 rfl rfl (λn5=>?_);obtain ⟨W6,Q75⟩: ∃W,W=w3.drewN n5:=⟨_,rfl⟩;have Qwd:Kp No w3 W6:=by rw [Q75];exact (Kp.refl No w3).drewN n5
    have k26:=k3.Q0 Qwd;rw [<-Q75];have Qpt:=HC2.out.Q9 k26;obtain ⟨o2,Qw5,hG⟩:=Is (P:=Tryz.prog) (w:=W6) Tryz.underlying128 Qlq Q5r Q5q Qpt.map x.r.key (.pointer (some ⟨b,0,none⟩));have HG:=zz hG;have Qtu:=zz k26;have Qz4:=zz (Qz3.out.Q9 Qwd);have Jad:=zz Qpt.map.lt;clear hG Q75 Qwd k26 k3 Qpt f7 fp2;go_wp2_with fail
    refine ⟨(Kp.Qx Qtu.out).Q0 ((Kp.refl (Mer.One m) W6).setBlock (.inl rfl) o2),?_⟩;refine Qa (λnq=>?_);obtain ⟨nr,hnr⟩: ∃n,n=nq:=⟨_,rfl⟩;rw [<-hnr];clear hnr;obtain ⟨w5,hw5⟩: ∃W,W=(ChangeMaps.setBlock W6 m o2).drewN nr:=⟨_,rfl⟩;have J8w:Kp (Mer.One m) W6 w5:=by rw [hw5];exact ((Kp.refl (Mer.One m) W6).setBlock (.inl rfl) o2).drewN nr
    have k25:Kp (Mer.One m) w2 w5:=(Kp.Qx Qtu.out).Q0 J8w;have J4o:w5.heap[m]?=some o2:=by rw [hw5];exact Gr (w:=W6) Jad.out o2
    have Qsy:=HG.out w5 J4o;have J84:m<w2.heap.size:=HC2.out.map.lt;have hbm:b≠m:=by have:=HB3.out;omega
    have J23:Xr 203 w5 ⟨b,none,0,[]⟩:=Qz4.out.keep J8w λg hg e=>by
     rcases hg with hg|hg|⟨y,hy,_⟩
     ·exact hbm (hg.symm.trans e)
     ·simp [Zs.row,Value.ownBlock] at hg
     ·exact absurd hy List.not_mem_nil
    have Hs:=HC2.out.Qj4 (c:=⟨b,none,0,[]⟩) HX.out.2.2.1.sorted J5e.out k25 Qsy J23 HB3.out (λg hg=>by simp [Zs.row,Value.ownBlock] at hg);obtain ⟨stA,Q4y⟩: ∃stA:Ja,stA={stk with keys:=Z3 stk.keys x.r.key []}:=⟨_,rfl⟩;obtain ⟨cA,hcA⟩: ∃c:Zs,c=⟨b,none,0,[]⟩:=⟨_,rfl⟩;have hfa:=Qjl (b:=b) J5e.out;have hcv:Qw stk.keys x.r.key=[]:=by unfold Qw;rw [Qx6.out];rfl
    have Q61:=zz (C6 csA x.r.key cA);have Hv:=zz (show X6 w5 s d l P o stA m (Jb csA x.r.key cA) Ed Ee KA from by rw [Q4y,hcA];exact Hs)
    have Qd0:=zz (show ∀g,Ve s m (Jb csA x.r.key cA) Ed Ee KA g->Ve s m cs ka kc K g\/w.heap.size<=g from λg hg=>by
     rw [hcA] at hg;rcases hg with hg|hg|hg|hg
     ·exact Qtr.out g (.inl hg)
     ·exact Qtr.out g (.inr (.inl hg))
     ·rcases hfa g hg with hg|hg
      ·exact Qtr.out g (.inr (.inr (.inl hg)))
      ·have h1:=HB3.out;have h2:=J9.out.size;exact .inr (by omega)
     ·exact Qtr.out g (.inr (.inr (.inr hg))))
    have Q2j:=zz (show ¬Ve s m (Jb csA x.r.key cA) Ed Ee KA p from λhg=>by
     rw [hcA] at hg;rcases hg with hg|hg|hg|hg
     ·exact Q6f.out (.inl hg)
     ·exact Q6f.out (.inr (.inl hg))
     ·rcases hfa p hg with hg|hg
      ·exact Q6f.out (.inr (.inr (.inl hg)))
      ·have h1:=HB3.out;omega
     ·exact Q6f.out (.inr (.inr (.inr hg))))
    have Q2u:=zz (k25.get HB2.out hpm);have Vb:=zz (show Kp (Ve s m cs ka kc K) w w5 from J9.out.trans k25 λi _ e=> .inr (.inl e))
    have Mn:=zz (show cA.vs=Qw stk.keys x.r.key/\Q45 cA.vs/\X8 x.Qi6.v=true/\V8 cA.vs x.Qi6.v=false/\cA.R.length<=1000000 from by
     have e:cA.vs=Qw stk.keys x.r.key:=by rw [hcv,hcA];rfl
     rw [e];exact ⟨rfl,Qnx.out.1,Qnx.out.2.1,Qnx.out.2.2,by rw [hcA];exact Nat.zero_le _⟩)
    have Qf2:=zz (show Yy stA.keys from by rw [Q4y];exact Yc HX.out.2.2.1.sorted _ _)
    have D6:=zz (show (Z3 stA.keys x.r.key (E0 cA.vs x.r.v)).Perm (Z3 stk.keys x.r.key (E0 (Qw stk.keys x.r.key) x.r.v))/\(stA.of=stk.of/\stA.kept=stk.kept/\stA.Zc=stk.Zc/\stA.n=stk.n/\stA.dead=stk.dead/\stA.mm=stk.mm/\stA.mc=stk.mc) from by
     rw [Mn.out.1,Q4y];exact ⟨Qcf HX.out.2.2.1.sorted _ _ _,rfl,rfl,rfl,rfl,rfl,rfl,rfl⟩)
    have Qtz:=zz (show (∀q∈Jb csA x.r.key cA,q.2.R.length<=B+k)/\KA.length<=B+k from ⟨Nl (Q:=λc=>c.R.length<=B+k) Em.out.1 (by rw [hcA];exact Nat.zero_le _),Em.out.2⟩);rw [<-hw5];clear hw5 hsm J8w k25 J4o Qsy J84 hbm hpm J23 Hs hfa hcv Q4y hcA Em Q6f Qtr J9 HB2 HC2 Jad Qz4 Qtu HG Qx6 J5e Qw5 hs2 hp2 Qz3 HB3;obtain ⟨Quq,J12⟩: ∃c,c=Jb csA x.r.key cA:=⟨_,rfl⟩;rw [<-J12] at Q61 Hv Qd0 Q2j Qtz;clear J12;have Em:=Qtz;clear Qtz;go_wp2_with fail
    have hgm:=Jc Q61.out;have hco:=Hv.out.Fx.each _ hgm;have Qbv:=Hv.out.F7.1;have hs5:=Q7 Hv.out.cell;have Qq7:=Q7 Q2u.out;have Qkj:s≠cA.b:=λe=>Qbv ⟨_,hgm, .inl e⟩;have Qkl:cA.row.ownBlock≠some s:=λe=>Qbv ⟨_,hgm, .inr (.inl e)⟩;have Qbe:p≠cA.b:=λe=>Q2j.out (.inr (.inr (.inl ⟨_,hgm, .inl e⟩)));have Qbf:cA.row.ownBlock≠some p:=λe=>Q2j.out (.inr (.inr (.inl ⟨_,hgm, .inr (.inl e)⟩)));have Qbn:=Hv.out.Qg7 hgm;obtain ⟨SS,hSS⟩: ∃S:Nat->Prop,∀g,S g↔(g=cA.b\/cA.row.ownBlock=some g):=⟨_,λ_=>Iff.rfl⟩;have f7: ∀W,Kp SS w5 W->W.cell? ⟨s,7,none⟩=some (.map (some m)):=λW hW=>(hW.cell (p:=⟨s,7,none⟩) hs5 λh=>((hSS _).1 h).elim Qkj Qkl).trans (Hv.out.at_ zK 7);have fp2: ∀W,Kp SS w5 W->W.cell? ⟨p,2,none⟩=some (.string x.r.key):=λW hW=>(hW.cell (p:=⟨p,2,none⟩) Qq7 λh=>((hSS _).1 h).elim Qbe Qbf).trans (Q4 Q2u.out 2)
    have lk: ∀W,Kp SS w5 W->(Instr.lookup 128 (.map (some m)) (.string x.r.key) false).run Tryz.prog W= .ok (.pointer (some ⟨cA.b,0,none⟩)) W:=λW hW=>by
     rw [G4 (Hv.out.map.of_heap (hW.block m Hv.out.map.lt λh=>((hSS _).1 h).elim Qbn.1 Qbn.2)) x.r.key,Vt,Q61.out];rfl
    have RV:=zz (show ∀W,Kp SS w5 W->W.rangeAt p 3 (Qv x.Qi6) from λW hW j u hu=>by
     have h1:=Qg Q2u.out 3 6 j u hu;rw [hW.cell (p:=⟨p,3+j,none⟩) Qq7 λh=>((hSS _).1 h).elim Qbe Qbf];exact h1)
    have hput:=λq=>Q6t (w5.drewN q) cA x.Qi6 (hco.Q9 ((Kp.refl No w5).drewN q)) Mn.out.2.1 ((Qm.X0 (Qab.out w5 Vb.out) ((Kp.refl No w5).drewN q))) Mn.out.2.2.1 Mn.out.2.2.2.1 Mn.out.2.2.2.2;simp only [Yk] at hput;have Qs5:=zz hput;have Qhz:=zz hSS;clear hSS hgm hco Qbv Qkj Qkl Qbe Qbf Qbn hput;go_upto_region 5 with fail
    refine zD SS [0,0,0,0,0,0,0,0,0,2,0,2] [0,1,2,3,4,5,6,7,8,9,10,11] ?_;repeat (first|refine zA ?_|refine zB ?_|refine zC ?_)
    (try (apply Qb rfl rfl rfl;(focus (intro W hW;go_simp;rw [lk W hW];rfl));(focus (go_simp;rfl))))
    repeat (first|refine zA ?_|refine zB ?_|refine zC ?_)
    apply Qb rfl rfl rfl
    ·intro W hW;exact Qc 44 _ rfl p 3 rfl (Qv x.Qi6) _ (RV.out W hW) Tryz.underlying44 rfl (by kernel_rfl)
    ·(focus (go_simp;rfl))
    refine Q8 rfl rfl (λq5=>?_);go_wp2_with fail
    refine (Qs5.out q5).mono ?_;rintro e w6 ⟨rfl,c6,Q2o⟩;have My:Kp SS w5 w6:=Q2o.kp.Qf.mono λg _ h=>(Qhz.out g).2 h;have Ma:=zz Q2o;clear Q2o Qs5;go_wp2_with fail
    (try refine ⟨My,?_⟩)
    repeat (first|refine zA ?_|refine zB ?_|refine zC ?_)
    refine Q8 rfl rfl (λq6=>?_);go_wp2_with fail
    refine (N7 3 _).mono ?_;rintro e w7 ⟨rfl,rfl⟩;go_wp2_with fail
    (try refine ⟨My.drewN q6,?_⟩)
    repeat (first|refine zA ?_|refine zB ?_|refine zC ?_)
    refine Qa (λnq=>?_);have My:Kp (λg=>g=cA.b\/cA.row.ownBlock=some g) w5 w6:=My.mono λg _ h=>(Qhz.out g).1 h;have J2d:Yy stA.keys:=Qf2.out
    have Qpt:=Hv.out.Iz (w':=w6) (c':=c6) J2d Q61.out Ma.out.b My Ma.out.ok (Ma.out.row.imp id λ⟨g,e,hg⟩ g' hg'=>by
     rw [e] at hg';injection hg' with hg';have hg:w5.heap.size<=g:=hg;omega)
    obtain ⟨w8,hw8⟩: ∃W,W=(w6.drewN q6).drewN nq:=⟨_,rfl⟩;have h68:Kp No w6 w8:=by rw [hw8];exact ((Kp.refl No w6).drewN q6).drewN nq
    have Qa7:=zz (Qpt.Q9 h68);have Qbi:Kp (λg=>g=cA.b\/cA.row.ownBlock=some g) w5 w8:=My.Qr h68;have Gc:=zz (Qbi.get Q2u.out λh=>h.elim (λe=>Q2j.out (.inr (.inr (.inl ⟨_,Jc Q61.out, .inl e⟩)))) λe=>Q2j.out (.inr (.inr (.inl ⟨_,Jc Q61.out, .inr (.inl e)⟩))))
    have Qb7: ∀g,K6 (Jb Quq x.r.key c6) g->K6 Quq g\/w5.heap.size<=g:=Q6v (w:=w5) Q61.out Hv.out.Fx.keys Ma.out.b (Ma.out.row.imp id λ⟨g,e,hg⟩ g' hg'=>by
     rw [e] at hg';injection hg' with hg';have hg:w5.heap.size<=g:=hg;omega) (λy hy=>(Ma.out.vals y hy).imp id λhn g hg=>hn g hg)
    have Bp:=zz (show ∀g,Ve s m (Jb Quq x.r.key c6) Ed Ee KA g->Ve s m cs ka kc K g\/w.heap.size<=g from λg hg=>by
     rcases hg with hg|hg|hg|hg
     ·exact Qd0.out g (.inl hg)
     ·exact Qd0.out g (.inr (.inl hg))
     ·rcases Qb7 g hg with hg|hg
      ·exact Qd0.out g (.inr (.inr (.inl hg)))
      ·have:=Vb.out.size;exact .inr (by omega)
     ·exact Qd0.out g (.inr (.inr (.inr hg))))
    have Ks:=zz (show Kp (Ve s m cs ka kc K) w w8 from Vb.out.trans Qbi λi hi hS=>by
     have hin:Ve s m Quq Ed Ee KA i:= .inr (.inr (.inl ⟨_,Jc Q61.out,hS.imp id λe=> .inl e⟩));rcases Qd0.out i hin with h1|h1
     ·exact h1
     ·omega)
    have Qo0:=zz (show ¬Ve s m (Jb Quq x.r.key c6) Ed Ee KA p from λhg=>by
     rcases hg with hg|hg|hg|hg
     ·exact Q2j.out (.inl hg)
     ·exact Q2j.out (.inr (.inl hg))
     ·rcases Qb7 p hg with hg|hg
      ·exact Q2j.out (.inr (.inr (.inl hg)))
      ·omega
     ·exact Q2j.out (.inr (.inr (.inr hg))))
    have Qij:=zz (show ∀q∈Jb Quq x.r.key c6,q.2.R.length<=B+(k+1) from by
     refine Nl (Q:=λc=>c.R.length<=B+(k+1)) (λq hq=>Nat.le_succ_of_le (Em.out.1 q hq)) ?_;have h1:=congrArg List.length Ma.out.vs;unfold Zs.vs at h1;rw [List.length_map,Fp,List.length_map] at h1;have h2:=Em.out.1 _ (Jc Q61.out);have h2:cA.R.length<=B+k:=h2;omega)
    have Qzm:=zz (show c6.vs=E0 cA.vs x.r.v from Ma.out.vs);rw [<-hw8];clear hw8 h68 Qbi Qb7 Qpt My Ma f7 fp2 lk RV hs5 Qq7 J2d Q2u Qd0 Vb;have hs8:=Q7 Qa7.out.cell;have Qvv:=Q7 Gc.out;have hps:p≠s:=λe=>Qo0.out (.inl e);have d0: ∀W,Kp (Mer.One s) w8 W->W.cell? ⟨p,0,none⟩=some (.int .i64 (oN:Int)):=λW hW=>Q4 (hW.get Gc.out λe=>hps e) 0;have d1: ∀W,Kp (Mer.One s) w8 W->W.cell? ⟨p,1,none⟩=some (.int .i64 x.r.seq):=λW hW=>Q4 (hW.get Gc.out λe=>hps e) 1;have RT:=zz (show ∀W,Kp (Mer.One s) w8 W->W.rangeAt p 3 [.int .i64 x.r.v.m, .int .i64 x.r.v.c] from λW hW=>by have:=Qg (hW.get Gc.out λe=>hps e) 3 2;exact this);go_upto_region 6 with fail
    refine zD (Mer.One s) [0,0,0,0,0,0,0,0,0,0,0,0,2] [0,1,2,3,4,5,6,7,8,9,10,11,12] ?_;repeat (first|refine zA ?_|refine zB ?_|refine zC ?_)
    apply Qb rfl rfl rfl
    ·intro W hW;exact Qc 25 _ rfl p 3 rfl [.int .i64 x.r.v.m, .int .i64 x.r.v.c] _ (RT.out W hW) Tryz.underlying25 rfl (by kernel_rfl)
    ·(focus (go_simp;rfl))
    repeat (first|refine zA ?_|refine zB ?_|refine zC ?_)
    apply Qb rfl rfl rfl
    ·(focus (intro _ _;go_simp;rw [if_pos (show ((oN:Nat):Int)<5 from Int.ofNat_lt.2 A8)]))
    ·(focus (go_simp;rfl))
    refine Q8 rfl rfl (λq8=>?_);obtain ⟨w9,Mc⟩: ∃W,W=w8.drewN q8:=⟨_,rfl⟩;have Q63:Kp No w8 w9:=by rw [Mc];exact (Kp.refl No w8).drewN q8
    have Gl:=Q63.get Qa7.out.cell λx=>x
    have M3:w9.rangeAt s 10 (Mf stA.of):=by
     have:=Qg Gl 10 15;rwa [Qej] at this
    have g3:=U9 stA.of A8;have g0:w9.cell? ⟨s,10+oN*3,none⟩=some (.int .i64 (Qn stA.of oN).seq):=M3 _ _ g3.1;have g1:w9.cell? ⟨s,10+oN*3+1,none⟩=some (.int .i64 (Qn stA.of oN).m):=M3 _ _ g3.2.1;have g2:w9.cell? ⟨s,10+oN*3+2,none⟩=some (.int .i64 (Qn stA.of oN).c):=M3 _ _ g3.2.2;have f0:=Qh Gl (10+oN*3);have f1:=Qh Gl (10+oN*3+1);have f2:=Qh Gl (10+oN*3+2);have hs9:=Q7 Gl;have Qa8:=zz (Qa7.out.Q9 Q63);have Qy9:=zz (Q63.get Gc.out λx=>x);have Q6d:=zz Q63;rw [<-Mc];clear Mc Q63 Gl M3 g3;go_wp2_with fail
    have Q7e:stA.of.length=5:=by rw [D6.out.2.1];exact HX.out.2.2.1.Qoe
    have Q0j:=Qa8.out.setOf (dn:=⟨x.r.seq,x.r.v.m,x.r.v.c⟩) Q7e A8;obtain ⟨wA,hwA⟩: ∃W,W=(((w9.setCell ⟨s,10+oN*3,none⟩ (.int .i64 x.r.seq)).setCell ⟨s,10+oN*3+1,none⟩ (.int .i64 x.r.v.m)).setCell ⟨s,10+oN*3+2,none⟩ (.int .i64 x.r.v.c)):=⟨_,rfl⟩
    have kA:Kp (Mer.One s) w8 wA:=by
     rw [hwA];exact (((Kp.Qx Q6d.out).setCell (p:=⟨s,10+oN*3,none⟩) (.inl (show Mer.One s s from rfl)) _).setCell (p:=⟨s,10+oN*3+1,none⟩) (.inl (show Mer.One s s from rfl)) _).setCell (p:=⟨s,10+oN*3+2,none⟩) (.inl (show Mer.One s s from rfl)) _
    rw [<-hwA] at Q0j;rw [<-hwA];clear g0 g1 g2 f0 f1 f2 hwA Q7e d0 d1;have Dc:=zz kA;refine ⟨kA,?_⟩;refine Qa (λnq=>?_);obtain ⟨wB,hwB⟩: ∃W,W=wA.drewN nq:=⟨_,rfl⟩;have Cd:Kp No wA wB:=by rw [hwB];exact (Kp.refl No wA).drewN nq
    obtain ⟨stB,Q7h,Qsm⟩: ∃stB:Ja,stB={{stA with keys:=Z3 stA.keys x.r.key c6.vs} with of:=stA.of.set oN ⟨x.r.seq,x.r.v.m,x.r.v.c⟩}/\X6 wB s d l P o stB m (Jb Quq x.r.key c6) Ed Ee KA:=⟨_,rfl,Q0j.Q9 Cd⟩;have Xd:=zz Q7h;have Oz:=zz Qsm;have Gd:=zz (Cd.get (kA.get Gc.out λe=>hps e) λx=>x);have HKB:=zz (show Kp (Ve s m cs ka kc K) w wB from (Ks.out.trans kA λ_ _ e=> .inl e).Qr Cd);rw [<-hwB];clear hwB Cd Q7h Qsm Q0j kA Qa8 Qy9 Q6d Qa7 Gc Ks RT hs8 Qvv hs9;go_wp2_with fail
    have hsB:=Q7 Oz.out.cell;have Qi3:=Q7 Gd.out;have d0: ∀W,Kp No wB W->W.cell? ⟨p,0,none⟩=some (.int .i64 (oN:Int)):=λW hW=>Q4 (hW.get Gd.out λx=>x) 0;have d3: ∀W,Kp No wB W->W.cell? ⟨s,3,none⟩=some (.int .i64 (o:Int)):=λW hW=>Oz.out.at_ hW 3;by_cases Bb:oN=o
    ·have e1:((oN:Int)==(o:Int))=true:=by rw [beq_iff_eq,Bb]
     have e1':(oN==o)=true:=by rw [beq_iff_eq,Bb]
     have Qil:=zz Bb;clear Bb;refine zD No [0,0,0,0,0,0,0] [0,1,2,3,4,5,6] ?_;repeat (first|refine zA ?_|refine zB ?_|refine zC ?_)
     refine Qa (λnq=>?_);obtain ⟨wC,Q7j⟩: ∃W,W=wB.drewN nq:=⟨_,rfl⟩;have Q7r:Kp No wB wC:=by rw [Q7j];exact (Kp.refl No wB).drewN nq
     rw [<-Q7j];clear d0 d3;have bC:=Q7r.get Gd.out λx=>x;have J0b:wC.cell? ⟨p,6,none⟩=some (.slice x.a x.r.v.val.length x.cap):=Q4 bC 6;have Qvw:=Q7 bC;have hLx:=Qab.out wC (HKB.out.Qr Q7r);have hvl:x.r.v.val.length<=1024:=(Zi.1 (Y9.1 HX.out.1).1).2.2.2.1;have hcl:=Dm x.a x.cap x.r.v.val wC.heap.size wC hLx.1 (by omega);have Qa9:=zz hcl;have Qya:=zz bC;have Q2i:=zz Q7r;clear Q7j Q7r bC hLx hcl hvl;go_wp2_with fail
     refine Qa9.out.mono ?_;rintro e7 w7 ⟨v7,rfl,hown,Ca,Q79⟩;obtain ⟨J2n,a7,c7,rfl,Qkf,Qkg,Qkh⟩:=id hown;have b7:=Ca.get Qya.out λx=>x;have f6:=Qh b7 6;have g6:w7.cell? ⟨p,6,none⟩=some (.slice x.a x.r.v.val.length x.cap):=Q4 b7 6;have J24:=Q7 b7;obtain ⟨wD,hwD⟩: ∃W,W=w7.setCell ⟨p,6,none⟩ (.slice a7 x.r.v.val.length c7):=⟨_,rfl⟩;have kD:Kp (Mer.One p) w7 wD:=by rw [hwD];exact (Kp.refl (Mer.One p) w7).setCell (p:=⟨p,6,none⟩) (.inl (show Mer.One p p from rfl)) _
     have bD:wD.heap[p]?=some (.cells #[.int .i64 (oN:Int), .int .i64 x.r.seq, .string x.r.key, .int .i64 x.r.v.m, .int .i64 x.r.v.c, .int .i64 x.r.v.o, .slice a7 x.r.v.val.length c7, .bool x.r.v.gone, .int .i64 x.r.v.ttl] 46 (0,0)):=by
      rw [hwD,Ql b7];rfl
     have Bc:Qe.ok ⟨x.r,a7,c7⟩ wD:=Own.keep hown kD λg hg e=>by
      obtain ⟨cur,J5⟩:=hown.type g hg;exact Qd J5 b7 (by decide) e
     have J5s:=zz Bc
     have Bq:=zz (show ∀g,(Qe.sl ⟨x.r,a7,c7⟩).ownBlock=some g->w.heap.size<=g from λg hg=>by
      have h1:=Q79 g hg;have h2:=HKB.out.size;have h3:=Q2i.out.size;omega)
     have Q2v:=zz ((Oz.out.Q9 (Q2i.out.Q0 Ca)).keep kD λg hg e=>Qo0.out ((show g=p from e)▸hg))
     have D3:=zz (show Kp (Ve s m cs ka kc K) w wD from ((HKB.out.Qr Q2i.out).Qr Ca).trans kD λi hi e=>by
      have:=Qxg.out;have e:i=p:=e;omega)
     have Qs0:=zz bD;have Qsb:=zz hwD;clear J2n Qkf Qkg Qkh hown Ca Q79 kD bD hwD b7 Bc Qa9 Qya Q2i J0b Qvw Oz Gd HKB hsB Qi3;go_upto_region 9 with fail
     rw [<-Qsb.out];clear f6 g6 J24 Qsb;have J7w:=Em.out.2;have HQ:=zz (show ∀g,(Value.slice Ed KA.length Ee).ownBlock=some g->g≠p/\g≠s from λg hg=>⟨λe=>Qo0.out (e▸ .inr (.inr (.inr (.inl hg)))),λe=>Q2v.out.F7.2 (e▸ .inl hg)⟩)
     have q1: ∀W,Kp (λg=>(Value.slice Ed KA.length Ee).ownBlock=some g) wD W->W.cell? ⟨s,25,none⟩=some (.slice Ed KA.length Ee):=λW hW=>by
      rw [Q4 (hW.get Q2v.out.cell λhs=>(HQ.out s hs).2 rfl)];rfl
     have R5:=zz (show ∀W,Kp (λg=>(Value.slice Ed KA.length Ee).ownBlock=some g) wD W->W.rangeAt p 0 [.int .i64 (oN:Int), .int .i64 x.r.seq, .string x.r.key, .int .i64 x.r.v.m, .int .i64 x.r.v.c, .int .i64 x.r.v.o, .slice a7 x.r.v.val.length c7, .bool x.r.v.gone, .int .i64 x.r.v.ttl] from λW hW=>by
      have:=Qg (hW.get Qs0.out λhs=>(HQ.out p hs).1 rfl) 0 9;exact this)
     refine Jk (Kp (λg=>(Value.slice Ed KA.length Ee).ownBlock=some g) wD) [0,0,0,0,0,0,2,2,0,0,2] [0,1,2,3,4,5,6,7,8,9] 10 (by kernel_rfl) (by kernel_rfl) (λ_ n h=>h.drewN n) zK ?_;repeat (first|refine zA ?_|refine zB ?_|refine zC ?_)
     refine Qb rfl rfl rfl (v:= .agg #[.int .i64 (oN:Int), .int .i64 x.r.seq, .string x.r.key, .int .i64 x.r.v.m, .int .i64 x.r.v.c, .int .i64 x.r.v.o, .slice a7 x.r.v.val.length c7, .bool x.r.v.gone, .int .i64 x.r.v.ttl]) (λW0 hW=>Qc 46 _ rfl p 0 rfl _ _ (R5.out W0 hW) Tryz.underlying46 rfl (by kernel_rfl)) rfl ?_;refine Q8 rfl rfl (λn1=>?_);go_wp2_with fail
     obtain ⟨W8,Q64⟩: ∃W,W=(wD.drewN n1).alloc (.cells #[.int .i64 (oN:Int), .int .i64 x.r.seq, .string x.r.key, .int .i64 x.r.v.m, .int .i64 x.r.v.c, .int .i64 x.r.v.o, .slice a7 x.r.v.val.length c7, .bool x.r.v.gone, .int .i64 x.r.v.ttl] 46):=⟨_,rfl⟩;have k8:Kp No wD W8:=by rw [Q64];exact (zK.drewN _).alloc _
     have b8:W8.heap[wD.heap.size]?=some (.cells #[.int .i64 (oN:Int), .int .i64 x.r.seq, .string x.r.key, .int .i64 x.r.v.m, .int .i64 x.r.v.c, .int .i64 x.r.v.o, .slice a7 x.r.v.val.length c7, .bool x.r.v.gone, .int .i64 x.r.v.ttl] 46 (0,0)):=by rw [Q64];exact heap_alloc_new (wD.drewN n1) _
     rw [<-Q64];clear Q64;refine ⟨Kp.Qx k8,?_⟩;refine Q8 rfl rfl (λn2=>?_);have hxo:(⟨x.r,a7,c7⟩:Qe).r.o=(oN:Int):=HX.out.2.2.2.1;obtain ⟨a9,c9,W9,hrun,Q0f,hk9,Gl⟩:=Oh (T:=26) (E:=46) (sz:=9) (bytes:=96) Tryz.underlying26 Ob (V:=W8.drewN n2) (Q2v.out.kept.own.keep (k8.drewN n2) λ_ _ x=>x) (news:=recC ⟨x.r,a7,c7⟩) (G5 _) rfl (g:=wD.heap.size) (cs:= #[.int .i64 (oN:Int), .int .i64 x.r.seq, .string x.r.key, .int .i64 x.r.v.m, .int .i64 x.r.v.c, .int .i64 x.r.v.o, .slice a7 x.r.v.val.length c7, .bool x.r.v.gone, .int .i64 x.r.v.ttl]) b8 (by unfold recC;rw [hxo];rfl) (by omega) (by omega);have Qa0:=zz hrun;have k9:Kp (λg=>(Value.slice Ed KA.length Ee).ownBlock=some g) wD W9:=(Kp.Qx (k8.drewN n2)).Q0 hk9;have Qo8:wD.heap.size<=(W8.drewN n2).heap.size:=(k8.drewN n2).size;clear hrun hk9;refine wpList_append_run rfl rfl rfl rfl Qa0.out (wpList_nil ⟨rfl,k9,?_⟩);clear Qa0 q1;repeat (first|refine zA ?_|refine zB ?_|refine zC ?_)
     refine Yu (λn4=>?_);refine Q8 rfl rfl (λn5=>?_);obtain ⟨Wa,hWa⟩: ∃W,W=(W9.drewN n4).drewN n5:=⟨_,rfl⟩;have Qsx:=Q0f.keep (show Kp No W9 Wa by rw [hWa];exact ((Kp.refl No W9).drewN n4).drewN n5) λ_ _ x=>x;have Qdz:Kp (λg=>(Value.slice Ed KA.length Ee).ownBlock=some g) wD Wa:=by rw [hWa];exact (k9.drewN n4).drewN n5
     have hba:(Value.slice a9 (KA.length+1) c9).ownBlock=(Value.slice Ed KA.length Ee).ownBlock\/ ∃g,(Value.slice a9 (KA.length+1) c9).ownBlock=some g/\wD.heap.size<=g:=Gl.imp id λ⟨g,e,hg⟩=>⟨g,e,Nat.le_trans Qo8 hg⟩;have hcE:=Q2v.out.Ie (x:=⟨x.r,a7,c7⟩) Qdz Qsx hba J5s.out;have bs:=Qdz.get Q2v.out.cell λhs=>(HQ.out s hs).2 rfl;have hsa:=Q7 bs;have f25:=Qh bs 25;have J6s:Wa.cell? ⟨s,25,none⟩=some (.slice Ed KA.length Ee):=by rw [Q4 bs];rfl
     have Hx:=zz (show Kp (Ve s m cs ka kc K) w (Wa.setCell ⟨s,25,none⟩ (.slice a9 (KA.length+1) c9)) from (D3.out.trans Qdz λi hi hS=>by
      rcases Bp.out i (.inr (.inr (.inr (.inl hS)))) with h1|h1
      ·exact h1
      ·omega).setCell (p:=⟨s,25,none⟩) (.inl (.inl rfl)) _)
     have Q47:=zz hcE
     have Qrz:=zz (show ∀g,(Value.slice a9 (KA.length+1) c9).ownBlock=some g->(Value.slice Ed KA.length Ee).ownBlock=some g\/w.heap.size<=g from λg hg=>by
      rcases hba with h1|⟨g',h1,h2⟩
      ·exact .inl (h1▸hg)
      ·rw [hg] at h1;injection h1 with h1;have:=D3.out.size;exact .inr (by omega))
     rw [<-hWa];clear hWa Qsx Qdz k9 k8 b8 Q0f Gl Qo8 hba hcE bs hxo R5 D3 Q2v Qs0;go_wp2_with fail
     intro nr;obtain ⟨wE,hwE⟩: ∃W,W=(Wa.setCell ⟨s,25,none⟩ (.slice a9 (KA.length+1) c9)).drewN nr:=⟨_,rfl⟩;have hEE:Kp No (Wa.setCell ⟨s,25,none⟩ (.slice a9 (KA.length+1) c9)) wE:=by rw [hwE];exact (Kp.refl No _).drewN nr
     have Q7d:x.r.o.toNat=oN:=by rw [HX.out.2.2.2.1];rfl
     have Qig:=zz (Nv (Q47.out.Q9 hEE) (λg hg=>by
      rcases hg with hg|hg|hg|hg|⟨y,hy,hg⟩
      ·exact Bp.out g (.inl hg)
      ·exact Bp.out g (.inr (.inl hg))
      ·exact Bp.out g (.inr (.inr (.inl hg)))
      ·rw [List.length_append,List.length_singleton] at hg;rcases Qrz.out g hg with h1|h1
       ·exact Bp.out g (.inr (.inr (.inr (.inl h1))))
       ·exact .inr h1
      ·rcases List.mem_append.1 hy with hy|hy
       ·exact Bp.out g (.inr (.inr (.inr (.inr ⟨y,hy,hg⟩))))
       ·rw [List.mem_singleton] at hy;rw [hy] at hg;exact .inr (Bq.out g hg)) (Hx.out.Qr hEE) Qij.out (by rw [List.length_append,List.length_singleton];omega) HX.out.2.2.2.2.1 HX.out.2.2.2.2.2 (by rw [Xd.out,Qzm.out];exact D6.out.1) (by rw [Xd.out];exact D6.out.2.2.2.1) (by rw [Xd.out];exact D6.out.2.2.2.2.1) (by rw [Xd.out];exact D6.out.2.2.2.2.2.1) (by rw [Xd.out];exact D6.out.2.2.2.2.2.2.1) (by rw [Xd.out];exact D6.out.2.2.2.2.2.2.2) (by rw [Xd.out,<-D6.out.2.1];unfold Z2;rw [Q7d]) (by rw [Xd.out,if_pos (by rw [HX.out.2.2.2.1,Qil.out]),<-D6.out.2.2.1]))
     rw [<-hwE];clear hwE hEE Q7d f25 J6s hsa Hx Q47 Qrz;go_wp2_with fail
     go_roundw
     case rel=>exact ⟨k+1,hlt,by go_num,Qig⟩
     case measure=>simp [intOf];omega
    ·have e1:((oN:Int)==(o:Int))=false:=by rw [beq_eq_false_iff_ne];exact λe=>Bb (by omega)
     have e1':(oN==o)=false:=by rw [beq_eq_false_iff_ne];exact Bb
     have Qil:=zz Bb;clear Bb;refine zD No [0,0,0,0,0,0,0] [0,1,2,3,4,5,6] ?_;repeat (first|refine zA ?_|refine zB ?_|refine zC ?_)
     refine Qa (λnq=>?_);obtain ⟨wE,hwE⟩: ∃W,W=wB.drewN nq:=⟨_,rfl⟩;have hEE:Kp No wB wE:=by rw [hwE];exact (Kp.refl No wB).drewN nq
     have Q7d:x.r.o.toNat=oN:=by rw [HX.out.2.2.2.1];rfl
     have Qig:=zz (Nv (Oz.out.Q9 hEE) Bp.out (HKB.out.Qr hEE) Qij.out (by have:=Em.out.2;omega) HX.out.2.2.2.2.1 HX.out.2.2.2.2.2 (by rw [Xd.out,Qzm.out];exact D6.out.1) (by rw [Xd.out];exact D6.out.2.2.2.1) (by rw [Xd.out];exact D6.out.2.2.2.2.1) (by rw [Xd.out];exact D6.out.2.2.2.2.2.1) (by rw [Xd.out];exact D6.out.2.2.2.2.2.2.1) (by rw [Xd.out];exact D6.out.2.2.2.2.2.2.2) (by rw [Xd.out,<-D6.out.2.1];unfold Z2;rw [Q7d]) (by rw [Xd.out,if_neg (λe=>Qil.out (by rw [HX.out.2.2.2.1] at e;omega)),<-D6.out.2.2.1]));rw [<-hwE];clear hwE hEE Q7d d0 d3 Oz Gd HKB hsB Qi3;go_wp2_with fail
     go_roundw
     case rel=>exact ⟨k+1,hlt,by go_num,Qig⟩
     case measure=>simp [intOf];omega
  ·obtain rfl:n=k:=by omega
   clear hge;go_wp2_with fail
   refine bodyPost_end (results_none rfl _ _ _) rfl ⟨rfl,HJ.out⟩
end Go.Proofs.YtgnkmjeoaoongaaGreatDoor
