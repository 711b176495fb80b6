/-
  SLays2.
-/
import Derived.Test.YtgnkmjeoaoongaaGreatDoorXd3
set_option maxRecDepth 100000
set_option maxHeartbeats 8000000
namespace Go.Proofs.YtgnkmjeoaoongaaGreatDoor
open Go.RowKit Go.Mer
theorem Dd {w W:World} {s d l o m:Nat} {P:ByteArray} {st stk stB:J7} {cs csB:Z7} {ka J2j:Option Addr} {kc J2m:Nat} {K KB:List Qa} {L:List Qx} {B k:Nat} {r:Qx} (hC:Yt W s d l P o stB m csB J2j J2m KB)
  (hF: ∀g,X6 s m csB J2j J2m KB g->X6 s m cs ka kc K g\/w.heap.size<=g) (hK:Kp (X6 s m cs ka kc K) w W) (hlen: ∀p∈csB,p.2.R.length<=B+(k+1)) (hkl:KB.length<=B+(k+1)) (hnext:L.take (k+1)=L.take k++[r]) (Bo:stk=Jf o st (L.take k))
  (hp:stB.keys.Perm (Jn stk.keys r.key (Yd (Qi stk.keys r.key) r.v))) (e1:stB.Xu=stk.Xu) (e2:stB.n=stk.n) (e3:stB.dead=stk.dead) (e4:stB.mm=stk.mm) (e5:stB.mc=stk.mc) (e6:stB.of=Jx stk.of r) (e7:stB.kept=if r.o=(o:Int) then stk.kept++[r] else stk.kept):
  Qet w s d l P o st m cs ka kc K L B (k+1) W:=by
 refine ⟨csB,J2j,J2m,KB,?_,hF,hK,hlen,hkl⟩;rw [hnext,Nl,<-Bo];exact hC.congr hp e1.symm e2.symm e3.symm e4.symm e5.symm e6.symm e7.symm
theorem Qfg {cs:Z7} {k:ByteArray} {b:Nat} (h:Qo cs k=none): ∀g,Ej (Qt cs k ⟨b,none,0,[]⟩) g->Ej cs g\/g=b:=by
 rw [Oa (Zw.1 h)];rintro g ⟨p,hp,hf⟩;rcases List.mem_append.1 hp with hp|hp
 ·exact .inl ⟨p,hp,hf⟩
 ·rw [List.mem_singleton] at hp;subst hp;rcases hf with hf|hf|⟨x,hx,_⟩
  ·exact .inr hf
  ·simp [Ja.row,Value.ownBlock] at hf
  ·exact absurd hx List.not_mem_nil
theorem Qcn {w:World} {s d l o m:Nat} {P:ByteArray} {st:J7} {cs:Z7} {ka:Option Addr} {kc:Nat} {K:List Qa} (h:Yt w s d l P o st m cs ka kc K) (hinv:Inv o st)
  (a:Option Addr) (cap:Nat) (L:List Qa) (hL: ∀W,Kp (X6 s m cs ka kc K) w W->V2 W a L) (_hc:L.length<=cap) (hr: ∀r∈L.map Qa.r,Jv r=true) (hg:X5 st.mm st.mc st.of (L.map Qa.r)=true) (hn:L.length<=64) (B:Nat) (hB:B<=900000) (hcB: ∀p∈cs,p.2.R.length<=B) (hkB:K.length<=B):
  Calls Tryz.prog 62 #[.pointer (some ⟨s,0,none⟩), .slice a L.length cap] w λe w'=>e= .returned (.tuple #[])/\Qet w s d l P o st m cs ka kc K (L.map Qa.r) B L.length w':=by
 obtain ⟨n,U2⟩: ∃n,n=L.length:=⟨_,rfl⟩;have hsl:=Q3 h.cell;have Qjr:=zz (show Qet w s d l P o st m cs ka kc K (L.map Qa.r) B 0 w from ⟨cs,ka,kc,K,h,λ_ x=> .inl x,Kp.refl _ _,λp hp=>by have:=hcB p hp;omega,by omega⟩);have HL:=zz hL;have HN:=zz U2;have HR:=zz (And.intro hr (And.intro hg hinv));have hnn:n<=64:=by omega
 rw [<-U2];clear h hL U2 hr hg hinv _hc hn hcB hkB;go_enter Tryz.func62,Tryz.ntmps62
 go_wp2_with fail
 go_loopw [8] (λi wr=> ∃k:Nat,k<=n/\i= .int .i64 (k:Int)/\Hid (Qet w s d l P o st m cs ka kc K (L.map Qa.r) B k wr)) (λi _=>n-(intOf i).toNat)
 case atStart=>exact ⟨0,Nat.zero_le _,rfl,Qjr⟩
 case round=>
  obtain ⟨k,hk,rfl,HJ⟩:=hrel;rcases Nat.lt_or_ge k n with hlt|hge
  ·obtain ⟨csA,Fx,Fy,KA,hC,hF,hK,hlen,Q4q⟩:=HJ.out;have Hf:k<L.length:=by have:=HN.out;omega
   have hLr:=HL.out wr hK;obtain ⟨g,off,rfl,hgl,hgr⟩:=Yr hLr.1 Hf;have hxk:(L.map Qa.r)[k]?=some L[k].r:=by rw [List.getElem?_map,List.getElem?_eq_getElem Hf];rfl
   have hxi:=HR.out.1 L[k].r (List.mem_of_getElem? hxk);have hstep:=Q58 HR.out.2.2 HR.out.1 HR.out.2.1 hxk
   have hnext:(L.map Qa.r).take (k+1)=(L.map Qa.r).take k++[L[k].r]:=by
    rw [List.take_succ_eq_append_getElem (by rw [List.length_map];exact Hf),List.getElem_map]
   have Ql0: ∀W,Kp (X6 s m cs ka kc K) w W->L[k].rd W:=λW hW=>(HL.out W hW).2 L[k] (List.getElem_mem Hf);obtain ⟨x,hx⟩: ∃x,x=L[k]:=⟨_,rfl⟩;rw [<-hx] at hgr hxi hstep hnext Ql0;obtain ⟨stk,Bo⟩: ∃stk,stk=Jf o st ((L.map Qa.r).take k):=⟨_,rfl⟩;rw [<-Bo] at hstep hC;obtain ⟨Ql4,hso⟩:=hstep;have hmm:stk.mm=st.mm/\stk.mc=st.mc:=by rw [Bo];exact ⟨(Fz o _ st).2.1,(Fz o _ st).2.2.1⟩
   rw [<-hmm.1,<-hmm.2] at hso;have hhas:=Ca Ql4 hxi hso;obtain ⟨hcs,Qqh⟩:=Gz Ql4 x.r.key;obtain ⟨hv,e1,e2,e3,_⟩:=Yw.1 hxi;obtain ⟨_,o1,o2,_⟩:=Zo.1 hv;obtain ⟨oN,Q1a⟩: ∃oN:Nat,x.r.o=(oN:Int):=⟨x.r.o.toNat,by omega⟩;have C7:oN<5:=by omega
   have hrc:recC x=[.int .i64 (oN:Int), .int .i64 x.r.seq, .string x.r.key, .int .i64 x.r.v.m, .int .i64 x.r.v.c, .int .i64 x.r.v.o,x.sl, .bool x.r.v.gone, .int .i64 x.r.v.ttl]:=by unfold recC;rw [Q1a]
   rw [hrc] at hgr;have R1:=zz (hgr wr zK);obtain ⟨w1,hw1⟩: ∃W,W=wr.alloc (.cells #[.int .i64 (oN:Int), .int .i64 x.r.seq, .string x.r.key, .int .i64 x.r.v.m, .int .i64 x.r.v.c, .int .i64 x.r.v.o,x.sl, .bool x.r.v.gone, .int .i64 x.r.v.ttl] 46):=⟨_,rfl⟩;have k1:Kp No wr w1:=by rw [hw1];exact zK.alloc _
   have b1:w1.heap[wr.heap.size]?=some (.cells #[.int .i64 (oN:Int), .int .i64 x.r.seq, .string x.r.key, .int .i64 x.r.v.m, .int .i64 x.r.v.c, .int .i64 x.r.v.o,x.sl, .bool x.r.v.gone, .int .i64 x.r.v.ttl] 46 (0,0)):=by rw [hw1];exact heap_alloc_new wr _
   obtain ⟨p,hpq⟩: ∃p,p=wr.heap.size:=⟨_,rfl⟩;rw [<-hpq] at b1;have hpn: ¬X6 s m csA Fx Fy KA p:=λhg=>by have:=hC.lt p hg;omega
   have Lj:=zz (hC.Q5 k1);have HB1:=zz b1;have U8:=zz (show Kp (X6 s m cs ka kc K) w w1 from hK.trans_no k1);have Qoy:=zz hF;have Q3v:=zz hpn;have Qxv:=zz (show w.heap.size<=p by rw [hpq];exact hK.size);have E4:=zz (And.intro hlen Q4q);have HW1:=zz hw1;have Q79:=zz Ql0;have HX:=zz (And.intro hxi (And.intro hso (And.intro Ql4 (And.intro Q1a (And.intro hnext Bo)))));have Q6v:=zz (And.intro hcs (And.intro hv hhas));have hs1:=Q3 Lj.out.cell;have hp1:=Q3 b1;have f7: ∀W,Kp No w1 W->W.cell? ⟨s,7,none⟩=some (.map (some m)):=λW hW=>Lj.out.at_ hW 7;have fp2: ∀W,Kp No w1 W->W.cell? ⟨p,2,none⟩=some (.string x.r.key):=λW hW=>Q0 (hW.get HB1.out λx=>x) 2;have lk: ∀W,Kp No w1 W->(Instr.lookup 128 (.map (some m)) (.string x.r.key) false).run Tryz.prog W= .ok ((Qo (Y3 csA) x.r.key).getD (.pointer none)) W:=λW hW=>Ke (Lj.out.map.of_heap (hW.block m Lj.out.map.lt λx=>x)) x.r.key;have hch:=Lj.out.chain x.r.key;have hg3:=hgl;clear hC hF hK hlen Q4q hLr hgr hxk hxi hnext Ql0 hx Ql4 hso hmm hhas hcs Qqh hv e1 e2 e3 o1 o2 Q1a hrc k1 b1 hw1 hpn Bo Hf hgl HJ
   go_upto_region 3 with (first
    |(refine Qe rfl 46 _ rfl g (off+k*9) rfl _ _ R1 Tryz.underlying46 rfl (by kernel_rfl) ?_)
    |(refine Qy rfl 46 _ _ rfl wr.heap.size (by rfl) _ _ _ rfl rfl (by kernel_rfl) (by rfl) (by rfl) ?_))
   rw [<-HW1.out,<-hpq];clear hpq hg3;cases hgg:Qo csA x.r.key with
   |some cA=>
    rw [V8,hgg] at lk;rw [hgg] at hch;simp only [Option.map_some,Option.getD_some,Xg] at lk;refine zD No [0,0,0,0,0,0,0,0] [0,1,2,3,4,5,6,7] ?_;repeat (first|refine zA ?_|refine zB ?_|refine zC ?_)
    (try (apply Q8 rfl rfl rfl;(focus (intro W hW;go_simp;rw [lk W hW];rfl));(focus (go_simp;rfl))))
    repeat (first|refine zA ?_|refine zB ?_|refine zC ?_)
    refine Q6 (λnq=>?_);obtain ⟨w5,hw5⟩: ∃W,W=w1.drewN nq:=⟨_,rfl⟩;have h15:Kp No w1 w5:=by rw [hw5];exact (Kp.refl No w1).drewN nq
    obtain ⟨stA,Q2l⟩: ∃stA,stA=stk:=⟨_,rfl⟩;have Lo:=zz (show Yt w5 s d l P o stA m csA Fx Fy KA from by rw [Q2l];exact Lj.out.Q5 h15);have Q3h:=zz hgg;have Q0q:=zz (h15.get HB1.out λx=>x);have Q9f:=Qoy;have Ga:=zz (show Kp (X6 s m cs ka kc K) w w5 from U8.out.trans_no h15);have N8:=Q3v;have hcv:Qi stk.keys x.r.key=cA.vs:=by unfold Qi;rw [hch];rfl
    have N7:=zz (show cA.vs=Qi stk.keys x.r.key/\Li cA.vs/\Zx x.Q72.v=true/\Yu cA.vs x.Q72.v=false/\cA.R.length<=1000000 from by
     rw [<-hcv];refine ⟨rfl,Q6v.out.1,Q6v.out.2.1,Q6v.out.2.2,?_⟩;have h2:=E4.out.1 _ (Qw hgg);have h2:cA.R.length<=B+k:=h2;omega)
    have Qjb:=zz (show Je stA.keys from by rw [Q2l];exact HX.out.2.2.1.sorted)
    have O3:=zz (show (Jn stA.keys x.r.key (Yd cA.vs x.r.v)).Perm (Jn stk.keys x.r.key (Yd (Qi stk.keys x.r.key) x.r.v))/\(stA.of=stk.of/\stA.kept=stk.kept/\stA.Xu=stk.Xu/\stA.n=stk.n/\stA.dead=stk.dead/\stA.mm=stk.mm/\stA.mc=stk.mc) from by
     rw [Q2l,hcv];exact ⟨List.Perm.refl _,rfl,rfl,rfl,rfl,rfl,rfl,rfl⟩)
    rw [<-hw5];clear hw5 h15 Q2l hgg hch hcv lk f7 fp2 hs1 hp1 Lj HB1 Qoy U8 Q3v;go_wp2_with fail
    have hgm:=Qw Q3h.out;have hco:=Lo.out.Vl.each _ hgm;have Q8i:=Lo.out.G0.1;have hs5:=Q3 Lo.out.cell;have Qlb:=Q3 Q0q.out;have Qg8:s≠cA.b:=λe=>Q8i ⟨_,hgm, .inl e⟩;have Qgb:cA.row.ownBlock≠some s:=λe=>Q8i ⟨_,hgm, .inr (.inl e)⟩;have Q84:p≠cA.b:=λe=>N8.out (.inr (.inr (.inl ⟨_,hgm, .inl e⟩)));have Q85:cA.row.ownBlock≠some p:=λe=>N8.out (.inr (.inr (.inl ⟨_,hgm, .inr (.inl e)⟩)));have Q8e:=Lo.out.Q5f hgm;obtain ⟨SS,hSS⟩: ∃S:Nat->Prop,∀g,S g↔(g=cA.b\/cA.row.ownBlock=some g):=⟨_,λ_=>Iff.rfl⟩;have f7: ∀W,Kp SS w5 W->W.cell? ⟨s,7,none⟩=some (.map (some m)):=λW hW=>(hW.cell (p:=⟨s,7,none⟩) hs5 λh=>((hSS _).1 h).elim Qg8 Qgb).trans (Lo.out.at_ zK 7);have fp2: ∀W,Kp SS w5 W->W.cell? ⟨p,2,none⟩=some (.string x.r.key):=λW hW=>(hW.cell (p:=⟨p,2,none⟩) Qlb λh=>((hSS _).1 h).elim Q84 Q85).trans (Q0 Q0q.out 2)
    have lk: ∀W,Kp SS w5 W->(Instr.lookup 128 (.map (some m)) (.string x.r.key) false).run Tryz.prog W= .ok (.pointer (some ⟨cA.b,0,none⟩)) W:=λW hW=>by
     rw [Ke (Lo.out.map.of_heap (hW.block m Lo.out.map.lt λh=>((hSS _).1 h).elim Q8e.1 Q8e.2)) x.r.key,V8,Q3h.out];rfl
    have RV:=zz (show ∀W,Kp SS w5 W->W.rangeAt p 3 (Qg x.Q72) from λW hW j u hu=>by
     have h1:=Qb Q0q.out 3 6 j u hu;rw [hW.cell (p:=⟨p,3+j,none⟩) Qlb λh=>((hSS _).1 h).elim Q84 Q85];exact h1)
    have hput:=λq=>Q47 (w5.drewN q) cA x.Q72 (hco.Q5 ((Kp.refl No w5).drewN q)) N7.out.2.1 ((Qd.Fg (Q79.out w5 Ga.out) ((Kp.refl No w5).drewN q))) N7.out.2.2.1 N7.out.2.2.2.1 N7.out.2.2.2.2;simp only [Y0] at hput;have Qel:=zz hput;have Qds:=zz hSS;clear hSS hgm hco Q8i Qg8 Qgb Q84 Q85 Q8e hput;go_upto_region 5 with fail
    refine zD SS [0,0,0,0,0,0,0,0,0,2,0,2] [0,1,2,3,4,5,6,7,8,9,10,11] ?_;repeat (first|refine zA ?_|refine zB ?_|refine zC ?_)
    (try (apply Q8 rfl rfl rfl;(focus (intro W hW;go_simp;rw [lk W hW];rfl));(focus (go_simp;rfl))))
    repeat (first|refine zA ?_|refine zB ?_|refine zC ?_)
    apply Q8 rfl rfl rfl
    ·intro W hW;exact Q9 44 _ rfl p 3 rfl (Qg x.Q72) _ (RV.out W hW) Tryz.underlying44 rfl (by kernel_rfl)
    ·(focus (go_simp;rfl))
    refine Q4 rfl rfl (λq5=>?_);go_wp2_with fail
    refine (Qel.out q5).mono ?_;rintro e w6 ⟨rfl,c6,Qji⟩;have Nf:Kp SS w5 w6:=Qji.kp.of_drewN.mono λg _ h=>(Qds.out g).2 h;have Q05:=zz Qji;clear Qji Qel;go_wp2_with fail
    (try refine ⟨Nf,?_⟩)
    repeat (first|refine zA ?_|refine zB ?_|refine zC ?_)
    refine Q4 rfl rfl (λq6=>?_);go_wp2_with fail
    refine (Ou 3 _).mono ?_;rintro e w7 ⟨rfl,rfl⟩;go_wp2_with fail
    (try refine ⟨Nf.drewN q6,?_⟩)
    repeat (first|refine zA ?_|refine zB ?_|refine zC ?_)
    refine Q6 (λnq=>?_);have Nf:Kp (λg=>g=cA.b\/cA.row.ownBlock=some g) w5 w6:=Nf.mono λg _ h=>(Qds.out g).1 h;have Qwr:Je stA.keys:=Qjb.out
    have Qkw:=Lo.out.Gt (w':=w6) (c':=c6) Qwr Q3h.out Q05.out.b Nf Q05.out.ok (Q05.out.row.imp id λ⟨g,e,hg⟩ g' hg'=>by
     rw [e] at hg';injection hg' with hg';have hg:w5.heap.size<=g:=hg;omega)
    obtain ⟨w8,hw8⟩: ∃W,W=(w6.drewN q6).drewN nq:=⟨_,rfl⟩;have h68:Kp No w6 w8:=by rw [hw8];exact ((Kp.refl No w6).drewN q6).drewN nq
    have Q76:=zz (Qkw.Q5 h68);have Q89:Kp (λg=>g=cA.b\/cA.row.ownBlock=some g) w5 w8:=Nf.trans_no h68;have El:=zz (Q89.get Q0q.out λh=>h.elim (λe=>N8.out (.inr (.inr (.inl ⟨_,Qw Q3h.out, .inl e⟩)))) λe=>N8.out (.inr (.inr (.inl ⟨_,Qw Q3h.out, .inr (.inl e)⟩))))
    have Q81: ∀g,Ej (Qt csA x.r.key c6) g->Ej csA g\/w5.heap.size<=g:=Q4a (w:=w5) Q3h.out Lo.out.Vl.keys Q05.out.b (Q05.out.row.imp id λ⟨g,e,hg⟩ g' hg'=>by
     rw [e] at hg';injection hg' with hg';have hg:w5.heap.size<=g:=hg;omega) (λy hy=>(Q05.out.vals y hy).imp id λhn g hg=>hn g hg)
    have Hv:=zz (show ∀g,X6 s m (Qt csA x.r.key c6) Fx Fy KA g->X6 s m cs ka kc K g\/w.heap.size<=g from λg hg=>by
     rcases hg with hg|hg|hg|hg
     ·exact Q9f.out g (.inl hg)
     ·exact Q9f.out g (.inr (.inl hg))
     ·rcases Q81 g hg with hg|hg
      ·exact Q9f.out g (.inr (.inr (.inl hg)))
      ·have:=Ga.out.size;exact .inr (by omega)
     ·exact Q9f.out g (.inr (.inr (.inr hg))))
    have Kx:=zz (show Kp (X6 s m cs ka kc K) w w8 from Ga.out.trans Q89 λi hi hS=>by
     have hin:X6 s m csA Fx Fy KA i:= .inr (.inr (.inl ⟨_,Qw Q3h.out,hS.imp id λe=> .inl e⟩));rcases Q9f.out i hin with h1|h1
     ·exact h1
     ·omega)
    have Qj9:=zz (show ¬X6 s m (Qt csA x.r.key c6) Fx Fy KA p from λhg=>by
     rcases hg with hg|hg|hg|hg
     ·exact N8.out (.inl hg)
     ·exact N8.out (.inr (.inl hg))
     ·rcases Q81 p hg with hg|hg
      ·exact N8.out (.inr (.inr (.inl hg)))
      ·omega
     ·exact N8.out (.inr (.inr (.inr hg))))
    have Qee:=zz (show ∀q∈Qt csA x.r.key c6,q.2.R.length<=B+(k+1) from by
     refine Fv (Q:=λc=>c.R.length<=B+(k+1)) (λq hq=>Nat.le_succ_of_le (E4.out.1 q hq)) ?_;have h1:=congrArg List.length Q05.out.vs;unfold Ja.vs at h1;rw [List.length_map,Va,List.length_map] at h1;have h2:=E4.out.1 _ (Qw Q3h.out);have h2:cA.R.length<=B+k:=h2;omega)
    have Qu0:=zz (show c6.vs=Yd cA.vs x.r.v from Q05.out.vs);rw [<-hw8];clear hw8 h68 Q89 Q81 Qkw Nf Q05 f7 fp2 lk RV hs5 Qlb Qwr Q0q Q9f Ga;have hs8:=Q3 Q76.out.cell;have Qr3:=Q3 El.out;have hps:p≠s:=λe=>Qj9.out (.inl e);have d0: ∀W,Kp (Mer.One s) w8 W->W.cell? ⟨p,0,none⟩=some (.int .i64 (oN:Int)):=λW hW=>Q0 (hW.get El.out λe=>hps e) 0;have d1: ∀W,Kp (Mer.One s) w8 W->W.cell? ⟨p,1,none⟩=some (.int .i64 x.r.seq):=λW hW=>Q0 (hW.get El.out λe=>hps e) 1;have RT:=zz (show ∀W,Kp (Mer.One s) w8 W->W.rangeAt p 3 [.int .i64 x.r.v.m, .int .i64 x.r.v.c] from λW hW=>by have:=Qb (hW.get El.out λe=>hps e) 3 2;exact this);go_upto_region 6 with fail
    refine zD (Mer.One s) [0,0,0,0,0,0,0,0,0,0,0,0,2] [0,1,2,3,4,5,6,7,8,9,10,11,12] ?_;repeat (first|refine zA ?_|refine zB ?_|refine zC ?_)
    apply Q8 rfl rfl rfl
    ·intro W hW;exact Q9 25 _ rfl p 3 rfl [.int .i64 x.r.v.m, .int .i64 x.r.v.c] _ (RT.out W hW) Tryz.underlying25 rfl (by kernel_rfl)
    ·(focus (go_simp;rfl))
    repeat (first|refine zA ?_|refine zB ?_|refine zC ?_)
    apply Q8 rfl rfl rfl
    ·(focus (intro _ _;go_simp;rw [if_pos (show ((oN:Nat):Int)<5 from Int.ofNat_lt.2 C7)]))
    ·(focus (go_simp;rfl))
    refine Q4 rfl rfl (λq8=>?_);obtain ⟨w9,Ll⟩: ∃W,W=w8.drewN q8:=⟨_,rfl⟩;have Q3m:Kp No w8 w9:=by rw [Ll];exact (Kp.refl No w8).drewN q8
    have Ml:=Q3m.get Q76.out.cell λx=>x
    have Dj:w9.rangeAt s 10 (Nn stA.of):=by
     have:=Qb Ml 10 15;rwa [Qic] at this
    have g3:=Uc stA.of C7;have g0:w9.cell? ⟨s,10+oN*3,none⟩=some (.int .i64 (Qp stA.of oN).seq):=Dj _ _ g3.1;have g1:w9.cell? ⟨s,10+oN*3+1,none⟩=some (.int .i64 (Qp stA.of oN).m):=Dj _ _ g3.2.1;have g2:w9.cell? ⟨s,10+oN*3+2,none⟩=some (.int .i64 (Qp stA.of oN).c):=Dj _ _ g3.2.2;have f0:=Qc Ml (10+oN*3);have f1:=Qc Ml (10+oN*3+1);have f2:=Qc Ml (10+oN*3+2);have hs9:=Q3 Ml;have Q77:=zz (Q76.out.Q5 Q3m);have Qt3:=zz (Q3m.get El.out λx=>x);have Q3t:=zz Q3m;rw [<-Ll];clear Ll Q3m Ml Dj g3;go_wp2_with fail
    have Q4s:stA.of.length=5:=by rw [O3.out.2.1];exact HX.out.2.2.1.Qlz
    have Bn:=Q77.out.setOf (dn:=⟨x.r.seq,x.r.v.m,x.r.v.c⟩) Q4s C7;obtain ⟨wA,hwA⟩: ∃W,W=(((w9.setCell ⟨s,10+oN*3,none⟩ (.int .i64 x.r.seq)).setCell ⟨s,10+oN*3+1,none⟩ (.int .i64 x.r.v.m)).setCell ⟨s,10+oN*3+2,none⟩ (.int .i64 x.r.v.c)):=⟨_,rfl⟩
    have kA:Kp (Mer.One s) w8 wA:=by
     rw [hwA];exact (((Kp.of_no Q3t.out).setCell (p:=⟨s,10+oN*3,none⟩) (.inl (show Mer.One s s from rfl)) _).setCell (p:=⟨s,10+oN*3+1,none⟩) (.inl (show Mer.One s s from rfl)) _).setCell (p:=⟨s,10+oN*3+2,none⟩) (.inl (show Mer.One s s from rfl)) _
    rw [<-hwA] at Bn;rw [<-hwA];clear g0 g1 g2 f0 f1 f2 hwA Q4s d0 d1;have M6:=zz kA;refine ⟨kA,?_⟩;refine Q6 (λnq=>?_);obtain ⟨wB,hwB⟩: ∃W,W=wA.drewN nq:=⟨_,rfl⟩;have I7:Kp No wA wB:=by rw [hwB];exact (Kp.refl No wA).drewN nq
    obtain ⟨stB,Q4w,Qnv⟩: ∃stB:J7,stB={{stA with keys:=Jn stA.keys x.r.key c6.vs} with of:=stA.of.set oN ⟨x.r.seq,x.r.v.m,x.r.v.c⟩}/\Yt wB s d l P o stB m (Qt csA x.r.key c6) Fx Fy KA:=⟨_,rfl,Bn.Q5 I7⟩;have Ys:=zz Q4w;have Vj:=zz Qnv;have Hu:=zz (I7.get (kA.get El.out λe=>hps e) λx=>x);have HKB:=zz (show Kp (X6 s m cs ka kc K) w wB from (Kx.out.trans kA λ_ _ e=> .inl e).trans_no I7);rw [<-hwB];clear hwB I7 Q4w Qnv Bn kA Q77 Qt3 Q3t Q76 El Kx RT hs8 Qr3 hs9;go_wp2_with fail
    have hsB:=Q3 Vj.out.cell;have Qdz:=Q3 Hu.out;have d0: ∀W,Kp No wB W->W.cell? ⟨p,0,none⟩=some (.int .i64 (oN:Int)):=λW hW=>Q0 (hW.get Hu.out λx=>x) 0;have d3: ∀W,Kp No wB W->W.cell? ⟨s,3,none⟩=some (.int .i64 (o:Int)):=λW hW=>Vj.out.at_ hW 3;by_cases Hg:oN=o
    ·have e1:((oN:Int)==(o:Int))=true:=by rw [beq_iff_eq,Hg]
     have e1':(oN==o)=true:=by rw [beq_iff_eq,Hg]
     have Qei:=zz Hg;clear Hg;refine zD No [0,0,0,0,0,0,0] [0,1,2,3,4,5,6] ?_;repeat (first|refine zA ?_|refine zB ?_|refine zC ?_)
     refine Q6 (λnq=>?_);obtain ⟨wC,Q4y⟩: ∃W,W=wB.drewN nq:=⟨_,rfl⟩;have Q54:Kp No wB wC:=by rw [Q4y];exact (Kp.refl No wB).drewN nq
     rw [<-Q4y];clear d0 d3;have bC:=Q54.get Hu.out λx=>x;have Qzz:wC.cell? ⟨p,6,none⟩=some (.slice x.a x.r.v.val.length x.cap):=Q0 bC 6;have Qr4:=Q3 bC;have hLx:=Q79.out wC (HKB.out.trans_no Q54);have hvl:x.r.v.val.length<=1024:=(Zo.1 (Yw.1 HX.out.1).1).2.2.2.1;have hcl:=Ix x.a x.cap x.r.v.val wC.heap.size wC hLx.1 (by omega);have Q3g:=zz hcl;have Qt4:=zz bC;have Q1y:=zz Q54;clear Q4y Q54 bC hLx hcl hvl;go_wp2_with fail
     refine Q3g.out.mono ?_;rintro e7 w7 ⟨v7,rfl,hown,Q18,Qgc⟩;obtain ⟨Qrc,a7,c7,rfl,Qqc,Qqd,Qqe⟩:=id hown;have b7:=Q18.get Qt4.out λx=>x;have f6:=Qc b7 6;have g6:w7.cell? ⟨p,6,none⟩=some (.slice x.a x.r.v.val.length x.cap):=Q0 b7 6;have J1p:=Q3 b7;obtain ⟨wD,hwD⟩: ∃W,W=w7.setCell ⟨p,6,none⟩ (.slice a7 x.r.v.val.length c7):=⟨_,rfl⟩;have kD:Kp (Mer.One p) w7 wD:=by rw [hwD];exact (Kp.refl (Mer.One p) w7).setCell (p:=⟨p,6,none⟩) (.inl (show Mer.One p p from rfl)) _
     have bD:wD.heap[p]?=some (.cells #[.int .i64 (oN:Int), .int .i64 x.r.seq, .string x.r.key, .int .i64 x.r.v.m, .int .i64 x.r.v.c, .int .i64 x.r.v.o, .slice a7 x.r.v.val.length c7, .bool x.r.v.gone, .int .i64 x.r.v.ttl] 46 (0,0)):=by
      rw [hwD,Qh b7];rfl
     have Q4t:Qa.ok ⟨x.r,a7,c7⟩ wD:=Own.keep hown kD λg hg e=>by
      obtain ⟨cur,hcur⟩:=hown.type g hg;exact Q7 hcur b7 (by decide) e
     have Qze:=zz Q4t
     have Hw:=zz (show ∀g,(Qa.sl ⟨x.r,a7,c7⟩).ownBlock=some g->w.heap.size<=g from λg hg=>by
      have h1:=Qgc g hg;have h2:=HKB.out.size;have h3:=Q1y.out.size;omega)
     have Q0r:=zz ((Vj.out.Q5 (Q1y.out.trans_same Q18)).keep kD λg hg e=>Qj9.out ((show g=p from e)▸hg))
     have Lq:=zz (show Kp (X6 s m cs ka kc K) w wD from ((HKB.out.trans_no Q1y.out).trans_no Q18).trans kD λi hi e=>by
      have:=Qxv.out;have e:i=p:=e;omega)
     have Qnf:=zz bD;have Qu5:=zz hwD;clear Qrc Qqc Qqd Qqe hown Q18 Qgc kD bD hwD b7 Q4t Q3g Qt4 Q1y Qzz Qr4 Vj Hu HKB hsB Qdz;go_upto_region 9 with fail
     rw [<-Qu5.out];clear f6 g6 J1p Qu5;have J1f:=E4.out.2;have HQ:=zz (show ∀g,(Value.slice Fx KA.length Fy).ownBlock=some g->g≠p/\g≠s from λg hg=>⟨λe=>Qj9.out (e▸ .inr (.inr (.inr (.inl hg)))),λe=>Q0r.out.G0.2 (e▸ .inl hg)⟩)
     have q1: ∀W,Kp (λg=>(Value.slice Fx KA.length Fy).ownBlock=some g) wD W->W.cell? ⟨s,25,none⟩=some (.slice Fx KA.length Fy):=λW hW=>by
      rw [Q0 (hW.get Q0r.out.cell λhs=>(HQ.out s hs).2 rfl)];rfl
     have R5:=zz (show ∀W,Kp (λg=>(Value.slice Fx KA.length Fy).ownBlock=some g) wD W->W.rangeAt p 0 [.int .i64 (oN:Int), .int .i64 x.r.seq, .string x.r.key, .int .i64 x.r.v.m, .int .i64 x.r.v.c, .int .i64 x.r.v.o, .slice a7 x.r.v.val.length c7, .bool x.r.v.gone, .int .i64 x.r.v.ttl] from λW hW=>by
      have:=Qb (hW.get Qnf.out λhs=>(HQ.out p hs).1 rfl) 0 9;exact this)
     refine J4 (Kp (λg=>(Value.slice Fx KA.length Fy).ownBlock=some g) wD) [0,0,0,0,0,0,2,2,0,0,2] [0,1,2,3,4,5,6,7,8,9] 10 (by kernel_rfl) (by kernel_rfl) (λ_ n h=>h.drewN n) zK ?_;repeat (first|refine zA ?_|refine zB ?_|refine zC ?_)
     refine Q8 rfl rfl rfl (v:= .agg #[.int .i64 (oN:Int), .int .i64 x.r.seq, .string x.r.key, .int .i64 x.r.v.m, .int .i64 x.r.v.c, .int .i64 x.r.v.o, .slice a7 x.r.v.val.length c7, .bool x.r.v.gone, .int .i64 x.r.v.ttl]) (λW0 hW=>Q9 46 _ rfl p 0 rfl _ _ (R5.out W0 hW) Tryz.underlying46 rfl (by kernel_rfl)) rfl ?_;refine Q4 rfl rfl (λn1=>?_);go_wp2_with fail
     obtain ⟨W8,Q3n⟩: ∃W,W=(wD.drewN n1).alloc (.cells #[.int .i64 (oN:Int), .int .i64 x.r.seq, .string x.r.key, .int .i64 x.r.v.m, .int .i64 x.r.v.c, .int .i64 x.r.v.o, .slice a7 x.r.v.val.length c7, .bool x.r.v.gone, .int .i64 x.r.v.ttl] 46):=⟨_,rfl⟩;have k8:Kp No wD W8:=by rw [Q3n];exact (zK.drewN _).alloc _
     have b8:W8.heap[wD.heap.size]?=some (.cells #[.int .i64 (oN:Int), .int .i64 x.r.seq, .string x.r.key, .int .i64 x.r.v.m, .int .i64 x.r.v.c, .int .i64 x.r.v.o, .slice a7 x.r.v.val.length c7, .bool x.r.v.gone, .int .i64 x.r.v.ttl] 46 (0,0)):=by rw [Q3n];exact heap_alloc_new (wD.drewN n1) _
     rw [<-Q3n];clear Q3n;refine ⟨Kp.of_no k8,?_⟩;refine Q4 rfl rfl (λn2=>?_);have hxo:(⟨x.r,a7,c7⟩:Qa).r.o=(oN:Int):=HX.out.2.2.2.1;obtain ⟨a9,c9,W9,hrun,Qo7,hk9,Ml⟩:=Ey (T:=26) (E:=46) (sz:=9) (bytes:=96) Tryz.underlying26 C8 (V:=W8.drewN n2) (Q0r.out.kept.own.keep (k8.drewN n2) λ_ _ x=>x) (news:=recC ⟨x.r,a7,c7⟩) (Mv _) rfl (g:=wD.heap.size) (cs:= #[.int .i64 (oN:Int), .int .i64 x.r.seq, .string x.r.key, .int .i64 x.r.v.m, .int .i64 x.r.v.c, .int .i64 x.r.v.o, .slice a7 x.r.v.val.length c7, .bool x.r.v.gone, .int .i64 x.r.v.ttl]) b8 (by unfold recC;rw [hxo];rfl) (by omega) (by omega);have Q0e:=zz hrun;have k9:Kp (λg=>(Value.slice Fx KA.length Fy).ownBlock=some g) wD W9:=(Kp.of_no (k8.drewN n2)).trans_same hk9;have Qjh:wD.heap.size<=(W8.drewN n2).heap.size:=(k8.drewN n2).size;clear hrun hk9;refine wpList_append_run rfl rfl rfl rfl Q0e.out (wpList_nil ⟨rfl,k9,?_⟩);clear Q0e q1;repeat (first|refine zA ?_|refine zB ?_|refine zC ?_)
     refine Yc (λn4=>?_);refine Q4 rfl rfl (λn5=>?_);obtain ⟨Wa,hWa⟩: ∃W,W=(W9.drewN n4).drewN n5:=⟨_,rfl⟩;have Qo8:=Qo7.keep (show Kp No W9 Wa by rw [hWa];exact ((Kp.refl No W9).drewN n4).drewN n5) λ_ _ x=>x;have Qaf:Kp (λg=>(Value.slice Fx KA.length Fy).ownBlock=some g) wD Wa:=by rw [hWa];exact (k9.drewN n4).drewN n5
     have hba:(Value.slice a9 (KA.length+1) c9).ownBlock=(Value.slice Fx KA.length Fy).ownBlock\/ ∃g,(Value.slice a9 (KA.length+1) c9).ownBlock=some g/\wD.heap.size<=g:=Ml.imp id λ⟨g,e,hg⟩=>⟨g,e,Nat.le_trans Qjh hg⟩;have hcE:=Q0r.out.Mp (x:=⟨x.r,a7,c7⟩) Qaf Qo8 hba Qze.out;have bs:=Qaf.get Q0r.out.cell λhs=>(HQ.out s hs).2 rfl;have hsa:=Q3 bs;have f25:=Qc bs 25;have J0d:Wa.cell? ⟨s,25,none⟩=some (.slice Fx KA.length Fy):=by rw [Q0 bs];rfl
     have Q3k:=zz (show Kp (X6 s m cs ka kc K) w (Wa.setCell ⟨s,25,none⟩ (.slice a9 (KA.length+1) c9)) from (Lq.out.trans Qaf λi hi hS=>by
      rcases Hv.out i (.inr (.inr (.inr (.inl hS)))) with h1|h1
      ·exact h1
      ·omega).setCell (p:=⟨s,25,none⟩) (.inl (.inl rfl)) _)
     have Q0b:=zz hcE
     have Qne:=zz (show ∀g,(Value.slice a9 (KA.length+1) c9).ownBlock=some g->(Value.slice Fx KA.length Fy).ownBlock=some g\/w.heap.size<=g from λg hg=>by
      rcases hba with h1|⟨g',h1,h2⟩
      ·exact .inl (h1▸hg)
      ·rw [hg] at h1;injection h1 with h1;have:=Lq.out.size;exact .inr (by omega))
     rw [<-hWa];clear hWa Qo8 Qaf k9 k8 b8 Qo7 Ml Qjh hba hcE bs hxo R5 Lq Q0r Qnf;go_wp2_with fail
     intro nr;obtain ⟨wE,hwE⟩: ∃W,W=(Wa.setCell ⟨s,25,none⟩ (.slice a9 (KA.length+1) c9)).drewN nr:=⟨_,rfl⟩;have hEE:Kp No (Wa.setCell ⟨s,25,none⟩ (.slice a9 (KA.length+1) c9)) wE:=by rw [hwE];exact (Kp.refl No _).drewN nr
     have Q4r:x.r.o.toNat=oN:=by rw [HX.out.2.2.2.1];rfl
     have Qeb:=zz (Dd (Q0b.out.Q5 hEE) (λg hg=>by
      rcases hg with hg|hg|hg|hg|⟨y,hy,hg⟩
      ·exact Hv.out g (.inl hg)
      ·exact Hv.out g (.inr (.inl hg))
      ·exact Hv.out g (.inr (.inr (.inl hg)))
      ·rw [List.length_append,List.length_singleton] at hg;rcases Qne.out g hg with h1|h1
       ·exact Hv.out g (.inr (.inr (.inr (.inl h1))))
       ·exact .inr h1
      ·rcases List.mem_append.1 hy with hy|hy
       ·exact Hv.out g (.inr (.inr (.inr (.inr ⟨y,hy,hg⟩))))
       ·rw [List.mem_singleton] at hy;rw [hy] at hg;exact .inr (Hw.out g hg)) (Q3k.out.trans_no hEE) Qee.out (by rw [List.length_append,List.length_singleton];omega) HX.out.2.2.2.2.1 HX.out.2.2.2.2.2 (by rw [Ys.out,Qu0.out];exact O3.out.1) (by rw [Ys.out];exact O3.out.2.2.2.1) (by rw [Ys.out];exact O3.out.2.2.2.2.1) (by rw [Ys.out];exact O3.out.2.2.2.2.2.1) (by rw [Ys.out];exact O3.out.2.2.2.2.2.2.1) (by rw [Ys.out];exact O3.out.2.2.2.2.2.2.2) (by rw [Ys.out,<-O3.out.2.1];unfold Jx;rw [Q4r]) (by rw [Ys.out,if_pos (by rw [HX.out.2.2.2.1,Qei.out]),<-O3.out.2.2.1]))
     rw [<-hwE];clear hwE hEE Q4r f25 J0d hsa Q3k Q0b Qne;go_wp2_with fail
     go_roundw
     case rel=>exact ⟨k+1,hlt,by go_num,Qeb⟩
     case measure=>simp [intOf];omega
    ·have e1:((oN:Int)==(o:Int))=false:=by rw [beq_eq_false_iff_ne];exact λe=>Hg (by omega)
     have e1':(oN==o)=false:=by rw [beq_eq_false_iff_ne];exact Hg
     have Qei:=zz Hg;clear Hg;refine zD No [0,0,0,0,0,0,0] [0,1,2,3,4,5,6] ?_;repeat (first|refine zA ?_|refine zB ?_|refine zC ?_)
     refine Q6 (λnq=>?_);obtain ⟨wE,hwE⟩: ∃W,W=wB.drewN nq:=⟨_,rfl⟩;have hEE:Kp No wB wE:=by rw [hwE];exact (Kp.refl No wB).drewN nq
     have Q4r:x.r.o.toNat=oN:=by rw [HX.out.2.2.2.1];rfl
     have Qeb:=zz (Dd (Vj.out.Q5 hEE) Hv.out (HKB.out.trans_no hEE) Qee.out (by have:=E4.out.2;omega) HX.out.2.2.2.2.1 HX.out.2.2.2.2.2 (by rw [Ys.out,Qu0.out];exact O3.out.1) (by rw [Ys.out];exact O3.out.2.2.2.1) (by rw [Ys.out];exact O3.out.2.2.2.2.1) (by rw [Ys.out];exact O3.out.2.2.2.2.2.1) (by rw [Ys.out];exact O3.out.2.2.2.2.2.2.1) (by rw [Ys.out];exact O3.out.2.2.2.2.2.2.2) (by rw [Ys.out,<-O3.out.2.1];unfold Jx;rw [Q4r]) (by rw [Ys.out,if_neg (λe=>Qei.out (by rw [HX.out.2.2.2.1] at e;omega)),<-O3.out.2.2.1]));rw [<-hwE];clear hwE hEE Q4r d0 d3 Vj Hu HKB hsB Qdz;go_wp2_with fail
     go_roundw
     case rel=>exact ⟨k+1,hlt,by go_num,Qeb⟩
     case measure=>simp [intOf];omega
   |none=>
    rw [V8,hgg] at lk;rw [hgg] at hch;simp only [Option.map_none,Option.getD_none] at lk;refine zD No [0,0,0,0,0,0,0,0] [0,1,2,3,4,5,6,7] ?_;repeat (first|refine zA ?_|refine zB ?_|refine zC ?_)
    (try (apply Q8 rfl rfl rfl;(focus (intro W hW;go_simp;rw [lk W hW];rfl));(focus (go_simp;rfl))))
    repeat (first|refine zA ?_|refine zB ?_|refine zC ?_)
    refine Q6 (λnq=>?_);obtain ⟨w2,hw2⟩: ∃W,W=w1.drewN nq:=⟨_,rfl⟩;have h12:Kp No w1 w2:=by rw [hw2];exact (Kp.refl No w1).drewN nq
    rw [<-hw2];clear hw2 lk;have HC2:=zz (Lj.out.Q5 h12);have HB2:=zz (h12.get HB1.out λx=>x);have Qz:=zz (show Kp (X6 s m cs ka kc K) w w2 from U8.out.trans_no h12);have hs2:=Q3 HC2.out.cell;have hp2:=Q3 HB2.out;have hsm:s≠m:=λe=>HC2.out.Af e;have hpm:p≠m:=λe=>Q3v.out (.inr (.inl e));have f7: ∀W,Kp (Mer.One m) w2 W->W.cell? ⟨s,7,none⟩=some (.map (some m)):=λW hW=>(hW.cell (p:=⟨s,7,none⟩) hs2 hsm).trans (HC2.out.at_ zK 7);have fp2: ∀W,Kp (Mer.One m) w2 W->W.cell? ⟨p,2,none⟩=some (.string x.r.key):=λW hW=>Q0 (hW.get HB2.out hpm) 2;have Qyz:=zz hgg;have Qs6:=zz hch;clear h12 Lj HB1 U8 hs1 hp1 hgg hch;go_upto_region 4 with fail
    refine zD (Mer.One m) [0,0,0,0,0,0,2,0,0,0,2] [0,1,2,3,4,5,6,7,8,9,10] ?_;repeat (first|refine zA ?_|refine zB ?_|refine zC ?_)
    refine Q4 rfl rfl (λq1=>?_);go_wp2_with fail
    refine (Qkg _).mono ?_;rintro e w3 ⟨b,rfl,Qwe,hb3,hk3⟩;have k3:Kp No w2 w3:=hk3.of_drewN;have Qv8:w2.heap.size<=b:=hb3;have Qtp:=zz Qwe;have HB3:=zz Qv8;clear hk3 Qwe hb3 Qv8;go_wp2_with fail
    (try refine ⟨Kp.of_no k3,?_⟩)
    repeat (first|refine zA ?_|refine zB ?_|refine zC ?_)
    refine Q4 rfl rfl (λn5=>?_);obtain ⟨W6,Q4l⟩: ∃W,W=w3.drewN n5:=⟨_,rfl⟩;have J2d:Kp No w3 W6:=by rw [Q4l];exact (Kp.refl No w3).drewN n5
    have k26:=k3.trans_same J2d;rw [<-Q4l];have Qkw:=HC2.out.Q5 k26;obtain ⟨o2,Qrd,hG⟩:=My (P:=Tryz.prog) (w:=W6) Tryz.underlying128 Qhb An Am Qkw.map x.r.key (.pointer (some ⟨b,0,none⟩));have HG:=zz hG;have Qp0:=zz k26;have Qtq:=zz (Qtp.out.Q5 J2d);have J3n:=zz Qkw.map.lt;clear hG Q4l J2d k26 k3 Qkw f7 fp2;go_wp2_with fail
    refine ⟨(Kp.of_no Qp0.out).trans_same ((Kp.refl (Mer.One m) W6).setBlock (.inl rfl) o2),?_⟩;refine Q6 (λnq=>?_);obtain ⟨nr,hnr⟩: ∃n,n=nq:=⟨_,rfl⟩;rw [<-hnr];clear hnr;obtain ⟨w5,hw5⟩: ∃W,W=(ChangeMaps.setBlock W6 m o2).drewN nr:=⟨_,rfl⟩;have J2h:Kp (Mer.One m) W6 w5:=by rw [hw5];exact ((Kp.refl (Mer.One m) W6).setBlock (.inl rfl) o2).drewN nr
    have k25:Kp (Mer.One m) w2 w5:=(Kp.of_no Qp0.out).trans_same J2h;have Qqz:w5.heap[m]?=some o2:=by rw [hw5];exact Up (w:=W6) J3n.out o2
    have Qo9:=HG.out w5 Qqz;have J1l:m<w2.heap.size:=HC2.out.map.lt;have hbm:b≠m:=by have:=HB3.out;omega
    have Qwf:Y7 203 w5 ⟨b,none,0,[]⟩:=Qtq.out.keep J2h λg hg e=>by
     rcases hg with hg|hg|⟨y,hy,_⟩
     ·exact hbm (hg.symm.trans e)
     ·simp [Ja.row,Value.ownBlock] at hg
     ·exact absurd hy List.not_mem_nil
    have Lk:=HC2.out.Qf4 (c:=⟨b,none,0,[]⟩) HX.out.2.2.1.sorted Qyz.out k25 Qo9 Qwf HB3.out (λg hg=>by simp [Ja.row,Value.ownBlock] at hg);obtain ⟨stA,Q2l⟩: ∃stA:J7,stA={stk with keys:=Jn stk.keys x.r.key []}:=⟨_,rfl⟩;obtain ⟨cA,hcA⟩: ∃c:Ja,c=⟨b,none,0,[]⟩:=⟨_,rfl⟩;have hfa:=Qfg (b:=b) Qyz.out;have hcv:Qi stk.keys x.r.key=[]:=by unfold Qi;rw [Qs6.out];rfl
    have Q3h:=zz (D7 csA x.r.key cA);have Lo:=zz (show Yt w5 s d l P o stA m (Qt csA x.r.key cA) Fx Fy KA from by rw [Q2l,hcA];exact Lk)
    have Q9f:=zz (show ∀g,X6 s m (Qt csA x.r.key cA) Fx Fy KA g->X6 s m cs ka kc K g\/w.heap.size<=g from λg hg=>by
     rw [hcA] at hg;rcases hg with hg|hg|hg|hg
     ·exact Qoy.out g (.inl hg)
     ·exact Qoy.out g (.inr (.inl hg))
     ·rcases hfa g hg with hg|hg
      ·exact Qoy.out g (.inr (.inr (.inl hg)))
      ·have h1:=HB3.out;have h2:=Qz.out.size;exact .inr (by omega)
     ·exact Qoy.out g (.inr (.inr (.inr hg))))
    have N8:=zz (show ¬X6 s m (Qt csA x.r.key cA) Fx Fy KA p from λhg=>by
     rw [hcA] at hg;rcases hg with hg|hg|hg|hg
     ·exact Q3v.out (.inl hg)
     ·exact Q3v.out (.inr (.inl hg))
     ·rcases hfa p hg with hg|hg
      ·exact Q3v.out (.inr (.inr (.inl hg)))
      ·have h1:=HB3.out;omega
     ·exact Q3v.out (.inr (.inr (.inr hg))))
    have Q0q:=zz (k25.get HB2.out hpm);have Ga:=zz (show Kp (X6 s m cs ka kc K) w w5 from Qz.out.trans k25 λi _ e=> .inr (.inl e))
    have N7:=zz (show cA.vs=Qi stk.keys x.r.key/\Li cA.vs/\Zx x.Q72.v=true/\Yu cA.vs x.Q72.v=false/\cA.R.length<=1000000 from by
     have e:cA.vs=Qi stk.keys x.r.key:=by rw [hcv,hcA];rfl
     rw [e];exact ⟨rfl,Q6v.out.1,Q6v.out.2.1,Q6v.out.2.2,by rw [hcA];exact Nat.zero_le _⟩)
    have Qjb:=zz (show Je stA.keys from by rw [Q2l];exact Zs HX.out.2.2.1.sorted _ _)
    have O3:=zz (show (Jn stA.keys x.r.key (Yd cA.vs x.r.v)).Perm (Jn stk.keys x.r.key (Yd (Qi stk.keys x.r.key) x.r.v))/\(stA.of=stk.of/\stA.kept=stk.kept/\stA.Xu=stk.Xu/\stA.n=stk.n/\stA.dead=stk.dead/\stA.mm=stk.mm/\stA.mc=stk.mc) from by
     rw [N7.out.1,Q2l];exact ⟨Q8r HX.out.2.2.1.sorted _ _ _,rfl,rfl,rfl,rfl,rfl,rfl,rfl⟩)
    have Qp4:=zz (show (∀q∈Qt csA x.r.key cA,q.2.R.length<=B+k)/\KA.length<=B+k from ⟨Fv (Q:=λc=>c.R.length<=B+k) E4.out.1 (by rw [hcA];exact Nat.zero_le _),E4.out.2⟩);rw [<-hw5];clear hw5 hsm J2h k25 Qqz Qo9 J1l hbm hpm Qwf Lk hfa hcv Q2l hcA E4 Q3v Qoy Qz HB2 HC2 J3n Qtq Qp0 HG Qs6 Qyz Qrd hs2 hp2 Qtp HB3;obtain ⟨Qps,Qvf⟩: ∃c,c=Qt csA x.r.key cA:=⟨_,rfl⟩;rw [<-Qvf] at Q3h Lo Q9f N8 Qp4;clear Qvf;have E4:=Qp4;clear Qp4;go_wp2_with fail
    have hgm:=Qw Q3h.out;have hco:=Lo.out.Vl.each _ hgm;have Q8i:=Lo.out.G0.1;have hs5:=Q3 Lo.out.cell;have Qlb:=Q3 Q0q.out;have Qg8:s≠cA.b:=λe=>Q8i ⟨_,hgm, .inl e⟩;have Qgb:cA.row.ownBlock≠some s:=λe=>Q8i ⟨_,hgm, .inr (.inl e)⟩;have Q84:p≠cA.b:=λe=>N8.out (.inr (.inr (.inl ⟨_,hgm, .inl e⟩)));have Q85:cA.row.ownBlock≠some p:=λe=>N8.out (.inr (.inr (.inl ⟨_,hgm, .inr (.inl e)⟩)));have Q8e:=Lo.out.Q5f hgm;obtain ⟨SS,hSS⟩: ∃S:Nat->Prop,∀g,S g↔(g=cA.b\/cA.row.ownBlock=some g):=⟨_,λ_=>Iff.rfl⟩;have f7: ∀W,Kp SS w5 W->W.cell? ⟨s,7,none⟩=some (.map (some m)):=λW hW=>(hW.cell (p:=⟨s,7,none⟩) hs5 λh=>((hSS _).1 h).elim Qg8 Qgb).trans (Lo.out.at_ zK 7);have fp2: ∀W,Kp SS w5 W->W.cell? ⟨p,2,none⟩=some (.string x.r.key):=λW hW=>(hW.cell (p:=⟨p,2,none⟩) Qlb λh=>((hSS _).1 h).elim Q84 Q85).trans (Q0 Q0q.out 2)
    have lk: ∀W,Kp SS w5 W->(Instr.lookup 128 (.map (some m)) (.string x.r.key) false).run Tryz.prog W= .ok (.pointer (some ⟨cA.b,0,none⟩)) W:=λW hW=>by
     rw [Ke (Lo.out.map.of_heap (hW.block m Lo.out.map.lt λh=>((hSS _).1 h).elim Q8e.1 Q8e.2)) x.r.key,V8,Q3h.out];rfl
    have RV:=zz (show ∀W,Kp SS w5 W->W.rangeAt p 3 (Qg x.Q72) from λW hW j u hu=>by
     have h1:=Qb Q0q.out 3 6 j u hu;rw [hW.cell (p:=⟨p,3+j,none⟩) Qlb λh=>((hSS _).1 h).elim Q84 Q85];exact h1)
    have hput:=λq=>Q47 (w5.drewN q) cA x.Q72 (hco.Q5 ((Kp.refl No w5).drewN q)) N7.out.2.1 ((Qd.Fg (Q79.out w5 Ga.out) ((Kp.refl No w5).drewN q))) N7.out.2.2.1 N7.out.2.2.2.1 N7.out.2.2.2.2;simp only [Y0] at hput;have Qel:=zz hput;have Qds:=zz hSS;clear hSS hgm hco Q8i Qg8 Qgb Q84 Q85 Q8e hput;go_upto_region 5 with fail
    refine zD SS [0,0,0,0,0,0,0,0,0,2,0,2] [0,1,2,3,4,5,6,7,8,9,10,11] ?_;repeat (first|refine zA ?_|refine zB ?_|refine zC ?_)
    (try (apply Q8 rfl rfl rfl;(focus (intro W hW;go_simp;rw [lk W hW];rfl));(focus (go_simp;rfl))))
    repeat (first|refine zA ?_|refine zB ?_|refine zC ?_)
    apply Q8 rfl rfl rfl
    ·intro W hW;exact Q9 44 _ rfl p 3 rfl (Qg x.Q72) _ (RV.out W hW) Tryz.underlying44 rfl (by kernel_rfl)
    ·(focus (go_simp;rfl))
    refine Q4 rfl rfl (λq5=>?_);go_wp2_with fail
    refine (Qel.out q5).mono ?_;rintro e w6 ⟨rfl,c6,Qji⟩;have Nf:Kp SS w5 w6:=Qji.kp.of_drewN.mono λg _ h=>(Qds.out g).2 h;have Q05:=zz Qji;clear Qji Qel;go_wp2_with fail
    (try refine ⟨Nf,?_⟩)
    repeat (first|refine zA ?_|refine zB ?_|refine zC ?_)
    refine Q4 rfl rfl (λq6=>?_);go_wp2_with fail
    refine (Ou 3 _).mono ?_;rintro e w7 ⟨rfl,rfl⟩;go_wp2_with fail
    (try refine ⟨Nf.drewN q6,?_⟩)
    repeat (first|refine zA ?_|refine zB ?_|refine zC ?_)
    refine Q6 (λnq=>?_);have Nf:Kp (λg=>g=cA.b\/cA.row.ownBlock=some g) w5 w6:=Nf.mono λg _ h=>(Qds.out g).1 h;have Qwr:Je stA.keys:=Qjb.out
    have Qkw:=Lo.out.Gt (w':=w6) (c':=c6) Qwr Q3h.out Q05.out.b Nf Q05.out.ok (Q05.out.row.imp id λ⟨g,e,hg⟩ g' hg'=>by
     rw [e] at hg';injection hg' with hg';have hg:w5.heap.size<=g:=hg;omega)
    obtain ⟨w8,hw8⟩: ∃W,W=(w6.drewN q6).drewN nq:=⟨_,rfl⟩;have h68:Kp No w6 w8:=by rw [hw8];exact ((Kp.refl No w6).drewN q6).drewN nq
    have Q76:=zz (Qkw.Q5 h68);have Q89:Kp (λg=>g=cA.b\/cA.row.ownBlock=some g) w5 w8:=Nf.trans_no h68;have El:=zz (Q89.get Q0q.out λh=>h.elim (λe=>N8.out (.inr (.inr (.inl ⟨_,Qw Q3h.out, .inl e⟩)))) λe=>N8.out (.inr (.inr (.inl ⟨_,Qw Q3h.out, .inr (.inl e)⟩))))
    have Q81: ∀g,Ej (Qt Qps x.r.key c6) g->Ej Qps g\/w5.heap.size<=g:=Q4a (w:=w5) Q3h.out Lo.out.Vl.keys Q05.out.b (Q05.out.row.imp id λ⟨g,e,hg⟩ g' hg'=>by
     rw [e] at hg';injection hg' with hg';have hg:w5.heap.size<=g:=hg;omega) (λy hy=>(Q05.out.vals y hy).imp id λhn g hg=>hn g hg)
    have Hv:=zz (show ∀g,X6 s m (Qt Qps x.r.key c6) Fx Fy KA g->X6 s m cs ka kc K g\/w.heap.size<=g from λg hg=>by
     rcases hg with hg|hg|hg|hg
     ·exact Q9f.out g (.inl hg)
     ·exact Q9f.out g (.inr (.inl hg))
     ·rcases Q81 g hg with hg|hg
      ·exact Q9f.out g (.inr (.inr (.inl hg)))
      ·have:=Ga.out.size;exact .inr (by omega)
     ·exact Q9f.out g (.inr (.inr (.inr hg))))
    have Kx:=zz (show Kp (X6 s m cs ka kc K) w w8 from Ga.out.trans Q89 λi hi hS=>by
     have hin:X6 s m Qps Fx Fy KA i:= .inr (.inr (.inl ⟨_,Qw Q3h.out,hS.imp id λe=> .inl e⟩));rcases Q9f.out i hin with h1|h1
     ·exact h1
     ·omega)
    have Qj9:=zz (show ¬X6 s m (Qt Qps x.r.key c6) Fx Fy KA p from λhg=>by
     rcases hg with hg|hg|hg|hg
     ·exact N8.out (.inl hg)
     ·exact N8.out (.inr (.inl hg))
     ·rcases Q81 p hg with hg|hg
      ·exact N8.out (.inr (.inr (.inl hg)))
      ·omega
     ·exact N8.out (.inr (.inr (.inr hg))))
    have Qee:=zz (show ∀q∈Qt Qps x.r.key c6,q.2.R.length<=B+(k+1) from by
     refine Fv (Q:=λc=>c.R.length<=B+(k+1)) (λq hq=>Nat.le_succ_of_le (E4.out.1 q hq)) ?_;have h1:=congrArg List.length Q05.out.vs;unfold Ja.vs at h1;rw [List.length_map,Va,List.length_map] at h1;have h2:=E4.out.1 _ (Qw Q3h.out);have h2:cA.R.length<=B+k:=h2;omega)
    have Qu0:=zz (show c6.vs=Yd cA.vs x.r.v from Q05.out.vs);rw [<-hw8];clear hw8 h68 Q89 Q81 Qkw Nf Q05 f7 fp2 lk RV hs5 Qlb Qwr Q0q Q9f Ga;have hs8:=Q3 Q76.out.cell;have Qr3:=Q3 El.out;have hps:p≠s:=λe=>Qj9.out (.inl e);have d0: ∀W,Kp (Mer.One s) w8 W->W.cell? ⟨p,0,none⟩=some (.int .i64 (oN:Int)):=λW hW=>Q0 (hW.get El.out λe=>hps e) 0;have d1: ∀W,Kp (Mer.One s) w8 W->W.cell? ⟨p,1,none⟩=some (.int .i64 x.r.seq):=λW hW=>Q0 (hW.get El.out λe=>hps e) 1;have RT:=zz (show ∀W,Kp (Mer.One s) w8 W->W.rangeAt p 3 [.int .i64 x.r.v.m, .int .i64 x.r.v.c] from λW hW=>by have:=Qb (hW.get El.out λe=>hps e) 3 2;exact this);go_upto_region 6 with fail
    refine zD (Mer.One s) [0,0,0,0,0,0,0,0,0,0,0,0,2] [0,1,2,3,4,5,6,7,8,9,10,11,12] ?_;repeat (first|refine zA ?_|refine zB ?_|refine zC ?_)
    apply Q8 rfl rfl rfl
    ·intro W hW;exact Q9 25 _ rfl p 3 rfl [.int .i64 x.r.v.m, .int .i64 x.r.v.c] _ (RT.out W hW) Tryz.underlying25 rfl (by kernel_rfl)
    ·(focus (go_simp;rfl))
    repeat (first|refine zA ?_|refine zB ?_|refine zC ?_)
    apply Q8 rfl rfl rfl
    ·(focus (intro _ _;go_simp;rw [if_pos (show ((oN:Nat):Int)<5 from Int.ofNat_lt.2 C7)]))
    ·(focus (go_simp;rfl))
    refine Q4 rfl rfl (λq8=>?_);obtain ⟨w9,Ll⟩: ∃W,W=w8.drewN q8:=⟨_,rfl⟩;have Q3m:Kp No w8 w9:=by rw [Ll];exact (Kp.refl No w8).drewN q8
    have Ml:=Q3m.get Q76.out.cell λx=>x
    have Dj:w9.rangeAt s 10 (Nn stA.of):=by
     have:=Qb Ml 10 15;rwa [Qic] at this
    have g3:=Uc stA.of C7;have g0:w9.cell? ⟨s,10+oN*3,none⟩=some (.int .i64 (Qp stA.of oN).seq):=Dj _ _ g3.1;have g1:w9.cell? ⟨s,10+oN*3+1,none⟩=some (.int .i64 (Qp stA.of oN).m):=Dj _ _ g3.2.1;have g2:w9.cell? ⟨s,10+oN*3+2,none⟩=some (.int .i64 (Qp stA.of oN).c):=Dj _ _ g3.2.2;have f0:=Qc Ml (10+oN*3);have f1:=Qc Ml (10+oN*3+1);have f2:=Qc Ml (10+oN*3+2);have hs9:=Q3 Ml;have Q77:=zz (Q76.out.Q5 Q3m);have Qt3:=zz (Q3m.get El.out λx=>x);have Q3t:=zz Q3m;rw [<-Ll];clear Ll Q3m Ml Dj g3;go_wp2_with fail
    have Q4s:stA.of.length=5:=by rw [O3.out.2.1];exact HX.out.2.2.1.Qlz
    have Bn:=Q77.out.setOf (dn:=⟨x.r.seq,x.r.v.m,x.r.v.c⟩) Q4s C7;obtain ⟨wA,hwA⟩: ∃W,W=(((w9.setCell ⟨s,10+oN*3,none⟩ (.int .i64 x.r.seq)).setCell ⟨s,10+oN*3+1,none⟩ (.int .i64 x.r.v.m)).setCell ⟨s,10+oN*3+2,none⟩ (.int .i64 x.r.v.c)):=⟨_,rfl⟩
    have kA:Kp (Mer.One s) w8 wA:=by
     rw [hwA];exact (((Kp.of_no Q3t.out).setCell (p:=⟨s,10+oN*3,none⟩) (.inl (show Mer.One s s from rfl)) _).setCell (p:=⟨s,10+oN*3+1,none⟩) (.inl (show Mer.One s s from rfl)) _).setCell (p:=⟨s,10+oN*3+2,none⟩) (.inl (show Mer.One s s from rfl)) _
    rw [<-hwA] at Bn;rw [<-hwA];clear g0 g1 g2 f0 f1 f2 hwA Q4s d0 d1;have M6:=zz kA;refine ⟨kA,?_⟩;refine Q6 (λnq=>?_);obtain ⟨wB,hwB⟩: ∃W,W=wA.drewN nq:=⟨_,rfl⟩;have I7:Kp No wA wB:=by rw [hwB];exact (Kp.refl No wA).drewN nq
    obtain ⟨stB,Q4w,Qnv⟩: ∃stB:J7,stB={{stA with keys:=Jn stA.keys x.r.key c6.vs} with of:=stA.of.set oN ⟨x.r.seq,x.r.v.m,x.r.v.c⟩}/\Yt wB s d l P o stB m (Qt Qps x.r.key c6) Fx Fy KA:=⟨_,rfl,Bn.Q5 I7⟩;have Ys:=zz Q4w;have Vj:=zz Qnv;have Hu:=zz (I7.get (kA.get El.out λe=>hps e) λx=>x);have HKB:=zz (show Kp (X6 s m cs ka kc K) w wB from (Kx.out.trans kA λ_ _ e=> .inl e).trans_no I7);rw [<-hwB];clear hwB I7 Q4w Qnv Bn kA Q77 Qt3 Q3t Q76 El Kx RT hs8 Qr3 hs9;go_wp2_with fail
    have hsB:=Q3 Vj.out.cell;have Qdz:=Q3 Hu.out;have d0: ∀W,Kp No wB W->W.cell? ⟨p,0,none⟩=some (.int .i64 (oN:Int)):=λW hW=>Q0 (hW.get Hu.out λx=>x) 0;have d3: ∀W,Kp No wB W->W.cell? ⟨s,3,none⟩=some (.int .i64 (o:Int)):=λW hW=>Vj.out.at_ hW 3;by_cases Hg:oN=o
    ·have e1:((oN:Int)==(o:Int))=true:=by rw [beq_iff_eq,Hg]
     have e1':(oN==o)=true:=by rw [beq_iff_eq,Hg]
     have Qei:=zz Hg;clear Hg;refine zD No [0,0,0,0,0,0,0] [0,1,2,3,4,5,6] ?_;repeat (first|refine zA ?_|refine zB ?_|refine zC ?_)
     refine Q6 (λnq=>?_);obtain ⟨wC,Q4y⟩: ∃W,W=wB.drewN nq:=⟨_,rfl⟩;have Q54:Kp No wB wC:=by rw [Q4y];exact (Kp.refl No wB).drewN nq
     rw [<-Q4y];clear d0 d3;have bC:=Q54.get Hu.out λx=>x;have Qzz:wC.cell? ⟨p,6,none⟩=some (.slice x.a x.r.v.val.length x.cap):=Q0 bC 6;have Qr4:=Q3 bC;have hLx:=Q79.out wC (HKB.out.trans_no Q54);have hvl:x.r.v.val.length<=1024:=(Zo.1 (Yw.1 HX.out.1).1).2.2.2.1;have hcl:=Ix x.a x.cap x.r.v.val wC.heap.size wC hLx.1 (by omega);have Q3g:=zz hcl;have Qt4:=zz bC;have Q1y:=zz Q54;clear Q4y Q54 bC hLx hcl hvl;go_wp2_with fail
     refine Q3g.out.mono ?_;rintro e7 w7 ⟨v7,rfl,hown,Q18,Qgc⟩;obtain ⟨Qrc,a7,c7,rfl,Qqc,Qqd,Qqe⟩:=id hown;have b7:=Q18.get Qt4.out λx=>x;have f6:=Qc b7 6;have g6:w7.cell? ⟨p,6,none⟩=some (.slice x.a x.r.v.val.length x.cap):=Q0 b7 6;have J1p:=Q3 b7;obtain ⟨wD,hwD⟩: ∃W,W=w7.setCell ⟨p,6,none⟩ (.slice a7 x.r.v.val.length c7):=⟨_,rfl⟩;have kD:Kp (Mer.One p) w7 wD:=by rw [hwD];exact (Kp.refl (Mer.One p) w7).setCell (p:=⟨p,6,none⟩) (.inl (show Mer.One p p from rfl)) _
     have bD:wD.heap[p]?=some (.cells #[.int .i64 (oN:Int), .int .i64 x.r.seq, .string x.r.key, .int .i64 x.r.v.m, .int .i64 x.r.v.c, .int .i64 x.r.v.o, .slice a7 x.r.v.val.length c7, .bool x.r.v.gone, .int .i64 x.r.v.ttl] 46 (0,0)):=by
      rw [hwD,Qh b7];rfl
     have Q4t:Qa.ok ⟨x.r,a7,c7⟩ wD:=Own.keep hown kD λg hg e=>by
      obtain ⟨cur,hcur⟩:=hown.type g hg;exact Q7 hcur b7 (by decide) e
     have Qze:=zz Q4t
     have Hw:=zz (show ∀g,(Qa.sl ⟨x.r,a7,c7⟩).ownBlock=some g->w.heap.size<=g from λg hg=>by
      have h1:=Qgc g hg;have h2:=HKB.out.size;have h3:=Q1y.out.size;omega)
     have Q0r:=zz ((Vj.out.Q5 (Q1y.out.trans_same Q18)).keep kD λg hg e=>Qj9.out ((show g=p from e)▸hg))
     have Lq:=zz (show Kp (X6 s m cs ka kc K) w wD from ((HKB.out.trans_no Q1y.out).trans_no Q18).trans kD λi hi e=>by
      have:=Qxv.out;have e:i=p:=e;omega)
     have Qnf:=zz bD;have Qu5:=zz hwD;clear Qrc Qqc Qqd Qqe hown Q18 Qgc kD bD hwD b7 Q4t Q3g Qt4 Q1y Qzz Qr4 Vj Hu HKB hsB Qdz;go_upto_region 9 with fail
     rw [<-Qu5.out];clear f6 g6 J1p Qu5;have J1f:=E4.out.2;have HQ:=zz (show ∀g,(Value.slice Fx KA.length Fy).ownBlock=some g->g≠p/\g≠s from λg hg=>⟨λe=>Qj9.out (e▸ .inr (.inr (.inr (.inl hg)))),λe=>Q0r.out.G0.2 (e▸ .inl hg)⟩)
     have q1: ∀W,Kp (λg=>(Value.slice Fx KA.length Fy).ownBlock=some g) wD W->W.cell? ⟨s,25,none⟩=some (.slice Fx KA.length Fy):=λW hW=>by
      rw [Q0 (hW.get Q0r.out.cell λhs=>(HQ.out s hs).2 rfl)];rfl
     have R5:=zz (show ∀W,Kp (λg=>(Value.slice Fx KA.length Fy).ownBlock=some g) wD W->W.rangeAt p 0 [.int .i64 (oN:Int), .int .i64 x.r.seq, .string x.r.key, .int .i64 x.r.v.m, .int .i64 x.r.v.c, .int .i64 x.r.v.o, .slice a7 x.r.v.val.length c7, .bool x.r.v.gone, .int .i64 x.r.v.ttl] from λW hW=>by
      have:=Qb (hW.get Qnf.out λhs=>(HQ.out p hs).1 rfl) 0 9;exact this)
     refine J4 (Kp (λg=>(Value.slice Fx KA.length Fy).ownBlock=some g) wD) [0,0,0,0,0,0,2,2,0,0,2] [0,1,2,3,4,5,6,7,8,9] 10 (by kernel_rfl) (by kernel_rfl) (λ_ n h=>h.drewN n) zK ?_;repeat (first|refine zA ?_|refine zB ?_|refine zC ?_)
     refine Q8 rfl rfl rfl (v:= .agg #[.int .i64 (oN:Int), .int .i64 x.r.seq, .string x.r.key, .int .i64 x.r.v.m, .int .i64 x.r.v.c, .int .i64 x.r.v.o, .slice a7 x.r.v.val.length c7, .bool x.r.v.gone, .int .i64 x.r.v.ttl]) (λW0 hW=>Q9 46 _ rfl p 0 rfl _ _ (R5.out W0 hW) Tryz.underlying46 rfl (by kernel_rfl)) rfl ?_;refine Q4 rfl rfl (λn1=>?_);go_wp2_with fail
     obtain ⟨W8,Q3n⟩: ∃W,W=(wD.drewN n1).alloc (.cells #[.int .i64 (oN:Int), .int .i64 x.r.seq, .string x.r.key, .int .i64 x.r.v.m, .int .i64 x.r.v.c, .int .i64 x.r.v.o, .slice a7 x.r.v.val.length c7, .bool x.r.v.gone, .int .i64 x.r.v.ttl] 46):=⟨_,rfl⟩;have k8:Kp No wD W8:=by rw [Q3n];exact (zK.drewN _).alloc _
     have b8:W8.heap[wD.heap.size]?=some (.cells #[.int .i64 (oN:Int), .int .i64 x.r.seq, .string x.r.key, .int .i64 x.r.v.m, .int .i64 x.r.v.c, .int .i64 x.r.v.o, .slice a7 x.r.v.val.length c7, .bool x.r.v.gone, .int .i64 x.r.v.ttl] 46 (0,0)):=by rw [Q3n];exact heap_alloc_new (wD.drewN n1) _
     rw [<-Q3n];clear Q3n;refine ⟨Kp.of_no k8,?_⟩;refine Q4 rfl rfl (λn2=>?_);have hxo:(⟨x.r,a7,c7⟩:Qa).r.o=(oN:Int):=HX.out.2.2.2.1;obtain ⟨a9,c9,W9,hrun,Qo7,hk9,Ml⟩:=Ey (T:=26) (E:=46) (sz:=9) (bytes:=96) Tryz.underlying26 C8 (V:=W8.drewN n2) (Q0r.out.kept.own.keep (k8.drewN n2) λ_ _ x=>x) (news:=recC ⟨x.r,a7,c7⟩) (Mv _) rfl (g:=wD.heap.size) (cs:= #[.int .i64 (oN:Int), .int .i64 x.r.seq, .string x.r.key, .int .i64 x.r.v.m, .int .i64 x.r.v.c, .int .i64 x.r.v.o, .slice a7 x.r.v.val.length c7, .bool x.r.v.gone, .int .i64 x.r.v.ttl]) b8 (by unfold recC;rw [hxo];rfl) (by omega) (by omega);have Q0e:=zz hrun;have k9:Kp (λg=>(Value.slice Fx KA.length Fy).ownBlock=some g) wD W9:=(Kp.of_no (k8.drewN n2)).trans_same hk9;have Qjh:wD.heap.size<=(W8.drewN n2).heap.size:=(k8.drewN n2).size;clear hrun hk9;refine wpList_append_run rfl rfl rfl rfl Q0e.out (wpList_nil ⟨rfl,k9,?_⟩);clear Q0e q1;repeat (first|refine zA ?_|refine zB ?_|refine zC ?_)
     refine Yc (λn4=>?_);refine Q4 rfl rfl (λn5=>?_);obtain ⟨Wa,hWa⟩: ∃W,W=(W9.drewN n4).drewN n5:=⟨_,rfl⟩;have Qo8:=Qo7.keep (show Kp No W9 Wa by rw [hWa];exact ((Kp.refl No W9).drewN n4).drewN n5) λ_ _ x=>x;have Qaf:Kp (λg=>(Value.slice Fx KA.length Fy).ownBlock=some g) wD Wa:=by rw [hWa];exact (k9.drewN n4).drewN n5
     have hba:(Value.slice a9 (KA.length+1) c9).ownBlock=(Value.slice Fx KA.length Fy).ownBlock\/ ∃g,(Value.slice a9 (KA.length+1) c9).ownBlock=some g/\wD.heap.size<=g:=Ml.imp id λ⟨g,e,hg⟩=>⟨g,e,Nat.le_trans Qjh hg⟩;have hcE:=Q0r.out.Mp (x:=⟨x.r,a7,c7⟩) Qaf Qo8 hba Qze.out;have bs:=Qaf.get Q0r.out.cell λhs=>(HQ.out s hs).2 rfl;have hsa:=Q3 bs;have f25:=Qc bs 25;have J0d:Wa.cell? ⟨s,25,none⟩=some (.slice Fx KA.length Fy):=by rw [Q0 bs];rfl
     have Q3k:=zz (show Kp (X6 s m cs ka kc K) w (Wa.setCell ⟨s,25,none⟩ (.slice a9 (KA.length+1) c9)) from (Lq.out.trans Qaf λi hi hS=>by
      rcases Hv.out i (.inr (.inr (.inr (.inl hS)))) with h1|h1
      ·exact h1
      ·omega).setCell (p:=⟨s,25,none⟩) (.inl (.inl rfl)) _)
     have Q0b:=zz hcE
     have Qne:=zz (show ∀g,(Value.slice a9 (KA.length+1) c9).ownBlock=some g->(Value.slice Fx KA.length Fy).ownBlock=some g\/w.heap.size<=g from λg hg=>by
      rcases hba with h1|⟨g',h1,h2⟩
      ·exact .inl (h1▸hg)
      ·rw [hg] at h1;injection h1 with h1;have:=Lq.out.size;exact .inr (by omega))
     rw [<-hWa];clear hWa Qo8 Qaf k9 k8 b8 Qo7 Ml Qjh hba hcE bs hxo R5 Lq Q0r Qnf;go_wp2_with fail
     intro nr;obtain ⟨wE,hwE⟩: ∃W,W=(Wa.setCell ⟨s,25,none⟩ (.slice a9 (KA.length+1) c9)).drewN nr:=⟨_,rfl⟩;have hEE:Kp No (Wa.setCell ⟨s,25,none⟩ (.slice a9 (KA.length+1) c9)) wE:=by rw [hwE];exact (Kp.refl No _).drewN nr
     have Q4r:x.r.o.toNat=oN:=by rw [HX.out.2.2.2.1];rfl
     have Qeb:=zz (Dd (Q0b.out.Q5 hEE) (λg hg=>by
      rcases hg with hg|hg|hg|hg|⟨y,hy,hg⟩
      ·exact Hv.out g (.inl hg)
      ·exact Hv.out g (.inr (.inl hg))
      ·exact Hv.out g (.inr (.inr (.inl hg)))
      ·rw [List.length_append,List.length_singleton] at hg;rcases Qne.out g hg with h1|h1
       ·exact Hv.out g (.inr (.inr (.inr (.inl h1))))
       ·exact .inr h1
      ·rcases List.mem_append.1 hy with hy|hy
       ·exact Hv.out g (.inr (.inr (.inr (.inr ⟨y,hy,hg⟩))))
       ·rw [List.mem_singleton] at hy;rw [hy] at hg;exact .inr (Hw.out g hg)) (Q3k.out.trans_no hEE) Qee.out (by rw [List.length_append,List.length_singleton];omega) HX.out.2.2.2.2.1 HX.out.2.2.2.2.2 (by rw [Ys.out,Qu0.out];exact O3.out.1) (by rw [Ys.out];exact O3.out.2.2.2.1) (by rw [Ys.out];exact O3.out.2.2.2.2.1) (by rw [Ys.out];exact O3.out.2.2.2.2.2.1) (by rw [Ys.out];exact O3.out.2.2.2.2.2.2.1) (by rw [Ys.out];exact O3.out.2.2.2.2.2.2.2) (by rw [Ys.out,<-O3.out.2.1];unfold Jx;rw [Q4r]) (by rw [Ys.out,if_pos (by rw [HX.out.2.2.2.1,Qei.out]),<-O3.out.2.2.1]))
     rw [<-hwE];clear hwE hEE Q4r f25 J0d hsa Q3k Q0b Qne;go_wp2_with fail
     go_roundw
     case rel=>exact ⟨k+1,hlt,by go_num,Qeb⟩
     case measure=>simp [intOf];omega
    ·have e1:((oN:Int)==(o:Int))=false:=by rw [beq_eq_false_iff_ne];exact λe=>Hg (by omega)
     have e1':(oN==o)=false:=by rw [beq_eq_false_iff_ne];exact Hg
     have Qei:=zz Hg;clear Hg;refine zD No [0,0,0,0,0,0,0] [0,1,2,3,4,5,6] ?_;repeat (first|refine zA ?_|refine zB ?_|refine zC ?_)
     refine Q6 (λnq=>?_);obtain ⟨wE,hwE⟩: ∃W,W=wB.drewN nq:=⟨_,rfl⟩;have hEE:Kp No wB wE:=by rw [hwE];exact (Kp.refl No wB).drewN nq
     have Q4r:x.r.o.toNat=oN:=by rw [HX.out.2.2.2.1];rfl
     have Qeb:=zz (Dd (Vj.out.Q5 hEE) Hv.out (HKB.out.trans_no hEE) Qee.out (by have:=E4.out.2;omega) HX.out.2.2.2.2.1 HX.out.2.2.2.2.2 (by rw [Ys.out,Qu0.out];exact O3.out.1) (by rw [Ys.out];exact O3.out.2.2.2.1) (by rw [Ys.out];exact O3.out.2.2.2.2.1) (by rw [Ys.out];exact O3.out.2.2.2.2.2.1) (by rw [Ys.out];exact O3.out.2.2.2.2.2.2.1) (by rw [Ys.out];exact O3.out.2.2.2.2.2.2.2) (by rw [Ys.out,<-O3.out.2.1];unfold Jx;rw [Q4r]) (by rw [Ys.out,if_neg (λe=>Qei.out (by rw [HX.out.2.2.2.1] at e;omega)),<-O3.out.2.2.1]));rw [<-hwE];clear hwE hEE Q4r d0 d3 Vj Hu HKB hsB Qdz;go_wp2_with fail
     go_roundw
     case rel=>exact ⟨k+1,hlt,by go_num,Qeb⟩
     case measure=>simp [intOf];omega
  ·obtain rfl:n=k:=by omega
   clear hge;go_wp2_with fail
   refine bodyPost_end (results_none rfl _ _ _) rfl ⟨rfl,HJ.out⟩
end Go.Proofs.YtgnkmjeoaoongaaGreatDoor
