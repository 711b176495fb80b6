/-
  SXLays.
-/
import Derived.Test.YtgnkmjeoaoongaaGreatDoorXd9
import Derived.Test.YtgnkmjeoaoongaaGreatDoorXd1
set_option maxRecDepth 100000
set_option maxHeartbeats 8000000
namespace Go.Proofs.YtgnkmjeoaoongaaGreatDoor
open Go.RowKit Go.Mer
theorem Aj: ∀(l:List (ByteArray×List Qf)) (k:ByteArray) (c1 c:List Qf),Jn (Jn l k c1) k c=Jn l k c
 |[],k,c1,c=>by
  show Jn [(k,c1)] k c=[(k,c)]
  rw [Jn,if_neg (J5 _),if_pos rfl]
 |x::l,k,c1,c=>by
  by_cases h1:Ug x.1 k
  ·rw [Jn,if_pos h1,Jn,if_pos h1,Jn,if_pos h1,Aj l k c1 c]
  ·by_cases h2:x.1=k
   ·rw [Jn,if_neg h1,if_pos h2,Jn,if_neg (J5 _),if_pos rfl,Jn,if_neg h1,if_pos h2]
   ·rw [Jn,if_neg h1,if_neg h2,Jn,if_neg (J5 _),if_pos rfl,Jn,if_neg h1,if_neg h2]
def Qb6 (w:World) (s r y:Nat) (P:ByteArray) (o:Nat) (st:J7) (la:Option Addr) (lc:Nat) (cs:Z7) (ka:Option Addr) (kc:Nat) (K:List Qa) (L:List Qx) (B:Nat) (k:Nat) (wr:World):Prop:=
 ∃la' Q2v cs' I8 M3 K',Xx wr s r y P o (Jf o st (L.take k)) la' Q2v cs' I8 M3 K'/\(∀g,Jj s la' Q2v cs' I8 M3 K' g->Jj s la lc cs ka kc K g\/w.heap.size<=g)/\Kp (Jj s la lc cs ka kc K) w wr/\(∀p∈cs',p.2.R.length<=B+k)/\K'.length<=B+k/\cs'.length<=B+k
def Qpk (w:World) (s r y:Nat) (P:ByteArray) (o:Nat) (F0:Nat->Prop) (stk:J7) (key:ByteArray) (i p:Nat) (rc:Array Value) (z:Qa) (ka:Option Addr) (kc:Nat) (K:List Qa) (B k:Nat) (wx:World):Prop:=
 ∃la lc cs keysA,Xx wx s r y P o {stk with keys:=keysA} la lc cs ka kc K/\Dv cs/\(∃hi:i<cs.length,cs[i].1=key/\cs[i].2.vs=Qi stk.keys key)/\(∀c,Jn keysA key c=Jn stk.keys key c)/\(∀g,Jj s la lc cs ka kc K g->F0 g\/w.heap.size<=g)/\Kp F0 w wx/\
  wx.heap[p]?=some (.cells rc 46 (0,0))/\ ¬Jj s la lc cs ka kc K p/\z.ok wx/\(∀q∈cs,q.2.R.length<=B+k)/\cs.length<=B+(k+1)
theorem Q56 {cs:Z7} {l:List (ByteArray×List Qf)} (h:J3 cs=l) (hs:Dv cs) {k:ByteArray} {i:Nat} (hi:i<cs.length) (hk:cs[i].1=k):cs[i].2.vs=Qi l k:=by
 unfold Qi;rw [<-h,Uk,Q4f hs hi hk];rfl
theorem Q8l {cs:Z7} {l:List (ByteArray×List Qf)} (h:J3 cs=l) {k:ByteArray} {i:Nat} (hsp:Mc cs k i false):Qi l k=[]:=by
 have hn:Qo cs k=none:=Ya λhm=>by
  obtain ⟨p,hp,e⟩:=List.mem_map.1 hm;rw [<-List.take_append_drop i cs] at hp;rcases List.mem_append.1 hp with hp|hp
  ·have:=hsp.lo p hp;rw [e] at this;exact J5 _ this
  ·have:=hsp.no rfl p hp;rw [e] at this;exact J5 _ this
 unfold Qi;rw [<-h,Uk,hn];rfl
def Q3x (w3 w4:World) (csA:Z7) (i:Nat) (key:ByteArray) (cb:Nat) (a2:Option Addr) (c2:Nat):Prop:=
 Qq 158 2 Yb w3 w4 (.slice a2 (i+1) c2) (i+1) (csA.take i++[(key,⟨cb,none,0,[]⟩)])/\w3.heap.size<=cb/\w4.heap[cb]?=some (.cells #[.slice none 0 0] 148 (0,0))
theorem Qc6 {w wx:World} {s r y o i p k B:Nat} {P:ByteArray} {F0:Nat->Prop} {stk:J7} {key:ByteArray} {rc:Array Value} {z:Qa} {la ka:Option Addr} {lc kc:Nat} {cs:Z7} {K:List Qa} (h:Xx wx s r y P o stk la lc cs ka kc K) (hs:Je stk.keys) (hsp:Mc cs key i true) (hf: ∀g,Jj s la lc cs ka kc K g->F0 g\/w.heap.size<=g) (hk:Kp F0 w wx)
  (hp:wx.heap[p]?=some (.cells rc 46 (0,0))) (hpn: ¬Jj s la lc cs ka kc K p) (hz:z.ok wx) (hl: ∀q∈cs,q.2.R.length<=B+k) (hc:cs.length<=B+k):Qpk w s r y P o F0 stk key i p rc z ka kc K B k wx:=by
 have hsc:=Ak h.Et hs;obtain ⟨hi,hki⟩:=hsp.yes rfl;exact ⟨la,lc,cs,stk.keys,h,hsc,⟨hi,hki,Q56 h.Et hsc hi hki⟩,λ_=>rfl,hf,hk,hp,hpn,hz,hl,by omega⟩
theorem Cc {w w3 w4 w5:World} {s r y o i p k B cb:Nat} {P:ByteArray} {F0:Nat->Prop} {stk:J7} {key:ByteArray} {rc:Array Value} {z:Qa} {la ka a2 a3:Option Addr} {lc kc c2 c3:Nat} {cs:Z7} {K:List Qa} (h:Xx w3 s r y P o stk la lc cs ka kc K) (hs:Je stk.keys) (hsp:Mc cs key i false) (hf: ∀g,Jj s la lc cs ka kc K g->F0 g\/w.heap.size<=g) (hk:Kp F0 w w3) (hw3:w.heap.size<=w3.heap.size)
  (hp:w3.heap[p]?=some (.cells rc 46 (0,0))) (hpn: ¬Jj s la lc cs ka kc K p) (hz:z.ok w3) (hl: ∀q∈cs,q.2.R.length<=B+k) (hc:cs.length<=B+k) (hI:Q3x w3 w4 cs i key cb a2 c2) (h3:Qq 158 2 Yb w3 w5 (.slice a3 (cs.length+1) c3) (cs.length+1) (cs.take i++(key,⟨cb,none,0,[]⟩)::cs.drop i)) (h45:Kp (λg=>(Value.slice a2 (i+1) c2).ownBlock=some g) w4 w5):
  Qpk w s r y P o F0 stk key i p rc z ka kc K B k (w5.setCell ⟨s,5,none⟩ (.slice a3 (cs.length+1) c3)):=by
 have h35:=h3.2.2.2
 have J13:w5.heap[cb]?=some (.cells #[.slice none 0 0] 148 (0,0)):=h45.get hI.2.2 λe=>by
  obtain ⟨cur,hcur⟩:=hI.1.2.1.type cb e;exact Q7 hI.2.2 hcur (by decide) rfl
 have hok:Y7 148 w5 ⟨cb,none,0,[]⟩:=⟨J13,Own.nil _ _ _,λv hv=>absurd hv List.not_mem_nil⟩;have hst:=h.Qrh hsp h35 hok hI.2.1 h3.2.1 h3.2.2.1;have hlt:=h.lt;have hxl:=Q3 h.cell;have hpl:=Q3 hp
 have hcf: ∀g,Ej (cs.take i++(key,(⟨cb,none,0,[]⟩:Ja))::cs.drop i) g->Ej cs g\/w3.heap.size<=g:=by
  rintro g ⟨q,hq,hg⟩;have hq2:=(Gk cs i (key,(⟨cb,none,0,[]⟩:Ja))).mem_iff.2 hq;rcases List.mem_append.1 hq2 with hq2|hq2
  ·exact .inl ⟨q,hq2,hg⟩
  ·rw [List.mem_singleton] at hq2;subst hq2;rcases hg with hg|hg|⟨v,hv,_⟩
   ·exact .inr (by have:=hI.2.1;have hg:g=cb:=hg;omega)
   ·simp [Ja.row,Value.ownBlock] at hg
   ·exact absurd hv List.not_mem_nil
 have Qo4: ∀g,Jj s a3 c3 (cs.take i++(key,(⟨cb,none,0,[]⟩:Ja))::cs.drop i) ka kc K g->Jj s la lc cs ka kc K g\/w3.heap.size<=g:=λg hg=>by
  rcases hg with hg|hg|hg|hg
  ·exact .inl (.inl hg)
  ·rw [Hn a3 _ (cs.length+1) _ c3] at hg;exact .inr (h3.2.2.1 g hg)
  ·exact (hcf g hg).imp (λh=> .inr (.inr (.inl h))) id
  ·exact .inl (.inr (.inr (.inr hg)))
 have hlen:(cs.take i++(key,(⟨cb,none,0,[]⟩:Ja))::cs.drop i).length=cs.length+1:=by
  have:=(Gk cs i (key,(⟨cb,none,0,[]⟩:Ja))).length_eq;rw [<-this,List.length_append,List.length_singleton]
 have hti:(cs.take i).length=i:=by have:=hsp.le;rw [List.length_take];omega
 have hs5:Kp (Mer.One s) w5 (w5.setCell ⟨s,5,none⟩ (.slice a3 (cs.length+1) c3)):=(Kp.refl (Mer.One s) w5).setCell (p:=⟨s,5,none⟩) (.inl (show Mer.One s s from rfl)) _;have hps:p≠s:=λe=>hpn (.inl e);have hkeys:=hst.Et;have hsc:=Ak hkeys (Zs hs _ _)
 have hget:(cs.take i++(key,(⟨cb,none,0,[]⟩:Ja))::cs.drop i)[i]?=some (key,⟨cb,none,0,[]⟩):=by
  rw [List.getElem?_append_right (by omega),hti,Nat.sub_self];rfl
 obtain ⟨hi,hge⟩:=List.getElem?_eq_some_iff.1 hget;refine ⟨a3,c3,_,_,hst,hsc,⟨hi,by rw [hge],by rw [hge,Q8l h.Et hsp];rfl⟩,λc=>Aj _ _ _ _,λg hg=>?_,(hk.trans_no h35).setCell (p:=⟨s,5,none⟩) (hf s (.inl rfl)) _,hs5.get (h35.get hp λx=>x) λe=>hps e,λhg=>?_,?_,λq hq=>?_,by rw [hlen];omega⟩
 ·rcases Qo4 g hg with h1|h1
  ·exact hf g h1
  ·exact .inr (Nat.le_trans hw3 h1)
 ·rcases Qo4 p hg with h1|h1
  ·exact hpn h1
  ·omega
 ·have h5:z.ok w5:=Qd.ok.keep hz h35 λ_ _ x=>x
  exact Qd.ok.apart h5 hs5 λg hg cur hcur=>by
   have hg:g=s:=hg;exact Q7 hcur (h.Q5 h35).cell (by decide) hg
 ·have hq2:=(Gk cs i (key,(⟨cb,none,0,[]⟩:Ja))).mem_iff.2 hq;rcases List.mem_append.1 hq2 with hq2|hq2
  ·exact hl q hq2
  ·rw [List.mem_singleton] at hq2;subst hq2;exact Nat.zero_le _
theorem Q9p {t:TypeId} {c c':Ja} {v:Qf} {w w':World} (h:Qb8 t c c' v w w') {g:Nat} (hg:Qdo c' g):Qdo c g\/w.heap.size<=g:=by
 rcases hg with hg|hg|⟨z,hz,hg⟩
 ·exact .inl (.inl (hg.trans h.b))
 ·rcases h.row with hr|⟨g',hr,hn⟩
  ·exact .inl (.inr (.inl (hr▸hg)))
  ·rw [hr] at hg;injection hg with hg;exact .inr (hg▸hn)
 ·rcases h.vals z hz with hv|hv
  ·exact .inl (.inr (.inr ⟨z,hv,hg⟩))
  ·exact .inr (hv g hg)
theorem Qls {w w5 we w6 w8:World} {s r y o i p k B:Nat} {P:ByteArray} {F0:Nat->Prop} {stk:J7} {key:ByteArray} {rc:Array Value} {z:Qa} {Qlr ka:Option Addr} {Qc5 kc:Nat} {cs2:Z7} {keysA:List (ByteArray×List Qf)} {K:List Qa} {q:ByteArray×Ja} {c6:Ja} {v:Qf}
  (h:Xx w5 s r y P o {stk with keys:=keysA} Qlr Qc5 cs2 ka kc K/\Dv cs2/\q.1=key/\q.2.vs=Qi stk.keys key/\(∀c,Jn keysA key c=Jn stk.keys key c)/\(∀g,Jj s Qlr Qc5 cs2 ka kc K g->F0 g\/w.heap.size<=g)/\Kp F0 w w5/\(∀q∈cs2,q.2.R.length<=B+k)/\cs2.length<=B+(k+1))
  (hB:w5.heap[p]?=some (.cells rc 46 (0,0))/\ ¬Jj s Qlr Qc5 cs2 ka kc K p/\z.ok w5) (hq: ∃hj:i<cs2.length,q=cs2[i]) (hke:Kp No w5 we) (hP:Qb8 148 q.2 c6 v we w6) (hk8:Kp No w6 w8):
  ∃stB:J7,stB={stk with keys:=Jn stk.keys key (Yd (Qi stk.keys key) v)}/\ ∃Qkk,Xx w8 s r y P o stB Qlr Qc5 Qkk ka kc K/\(∀g,Jj s Qlr Qc5 Qkk ka kc K g->F0 g\/w.heap.size<=g)/\Kp F0 w w8/\w8.heap[p]?=some (.cells rc 46 (0,0))/\ ¬Jj s Qlr Qc5 Qkk ka kc K p/\z.ok w8/\(∀q∈Qkk,q.2.R.length<=B+(k+1))/\Qkk.length<=B+(k+1):=by
 obtain ⟨hC,hsc,hk,hvs,hset,hF,hK,hl,hcn⟩:=h;obtain ⟨Quw,hpn,hz⟩:=hB;obtain ⟨hi,rfl⟩:=hq;have J4w:=hC.Q5 hke;have hmem:=List.getElem_mem hi;have hco:=J4w.Vl.each _ hmem
 have hrow:c6.row.ownBlock=cs2[i].2.row.ownBlock\/ ∀g,c6.row.ownBlock=some g->we.heap.size<=g:=hP.row.imp id λ⟨g',hr,hn⟩ g hg=>by
  rw [hr] at hg;injection hg with hg;exact hg▸hn
 have hst:=(J4w.Gt hsc hi hk hP.b hP.kp hP.ok hrow).Q5 hk8;have hlen:(Qt cs2 key c6).length=cs2.length:=(I9 hsc hi hk hP.b).2;have hsz:=hke.size
 have Qo4: ∀g,Jj s Qlr Qc5 (Qt cs2 key c6) ka kc K g->Jj s Qlr Qc5 cs2 ka kc K g\/we.heap.size<=g:=λg hg=>by
  rcases hg with hg|hg|hg|hg
  ·exact .inl (.inl hg)
  ·rw [hlen] at hg;exact .inl (.inr (.inl hg))
  ·rw [<-hk] at hg;exact (Ly hmem (λg hg=>Q9p hP hg) g hg).imp (λh=> .inr (.inr (.inl h))) id
  ·exact .inl (.inr (.inr (.inr hg)))
 have hpl:=Q3 Quw
 have hS: ∀g,(g=cs2[i].2.b\/cs2[i].2.row.ownBlock=some g)->Ty we 148 g\/Ty we 44 g:=by
  rintro g (rfl|hg)
  ·exact .inl ⟨_,hco.cell⟩
  ·exact .inr (hco.own.type g hg)
 have J0i:=hke.get Quw λx=>x;refine ⟨_,rfl,Qt cs2 key c6,?_,λg hg=>?_,((hK.trans_no hke).trans hP.kp λj hj e=>?_).trans_no hk8,hk8.get (hP.kp.get J0i λe=>?_) λx=>x,λhg=>?_,?_,λq hq=>?_,by rw [hlen];exact hcn⟩
 ·have e:Jn keysA key c6.vs=Jn stk.keys key (Yd (Qi stk.keys key) v):=by rw [hset,hP.vs,hvs]
  rw [<-e];exact hst
 ·rcases Qo4 g hg with h1|h1
  ·exact hF g h1
  ·have:=hK.size;exact .inr (by omega)
 ·rcases hF j (.inr (.inr (.inl ⟨_,hmem,e.imp id λe=> .inl e⟩))) with h1|h1
  ·exact h1
  ·omega
 ·rcases hS p e with t|t
  ·exact t.ne ⟨_,J0i⟩ (by decide) rfl
  ·exact t.ne ⟨_,J0i⟩ (by decide) rfl
 ·rcases Qo4 p hg with h1|h1
  ·exact hpn h1
  ·omega
 ·have hze:z.ok we:=Qd.ok.keep hz hke λ_ _ x=>x
  have J98:z.ok w6:=Qd.ok.apart hze hP.kp λg hg cur hcur=>by
   rcases hS g hg with t|t
   ·exact t.ne ⟨_,hcur⟩ (by decide) rfl
   ·exact t.ne ⟨_,hcur⟩ (by decide) rfl
  exact Qd.ok.keep J98 hk8 λ_ _ x=>x
 ·have J2n:=Fv (cs:=cs2) (k:=key) (c':=c6) (Q:=λc=>c.R.length<=B+(k+1)) (λq hq=>by have:=hl q hq;omega) (by
   have h1:=congrArg List.length hP.vs;unfold Ja.vs at h1;rw [List.length_map,Va,List.length_map] at h1;have:=hl _ hmem;omega)
  exact J2n q hq
theorem Q6o {w:World} {s r y o:Nat} {P:ByteArray} {st:J7} {la:Option Addr} {lc:Nat} {cs:Z7} {ka:Option Addr} {kc:Nat} {K:List Qa} (h:Xx w s r y P o st la lc cs ka kc K) (hinv:Inv o st)
  (a:Option Addr) (cap:Nat) (L:List Qa) (hL: ∀W,Kp (Jj s la lc cs ka kc K) w W->V2 W a L) (_hc:L.length<=cap) (hr: ∀r∈L.map Qa.r,Jv r=true) (hg:X5 st.mm st.mc st.of (L.map Qa.r)=true) (hn:L.length<=64) (B:Nat) (hB:B<=900000) (hcB: ∀p∈cs,p.2.R.length<=B) (hkB:K.length<=B) (hcn:cs.length<=B):
  Calls Tryz.prog 70 #[.pointer (some ⟨s,0,none⟩), .slice a L.length cap] w λe w'=>e= .returned (.tuple #[])/\Qb6 w s r y P o st la lc cs ka kc K (L.map Qa.r) B L.length w':=by
 obtain ⟨n,U2⟩: ∃n,n=L.length:=⟨_,rfl⟩;have hsl:=Q3 h.cell;have Qjr:=zz (show Qb6 w s r y P o st la lc cs ka kc K (L.map Qa.r) B 0 w from ⟨la,lc,cs,ka,kc,K,h,λ_ x=> .inl x,Kp.refl _ _,λp hp=>by have:=hcB p hp;omega,by omega,by omega⟩);have HL:=zz hL;have HN:=zz U2;have HR:=zz (And.intro hr (And.intro hg hinv));have hnn:n<=64:=by omega
 rw [<-U2];clear h hL U2 hr hg hinv _hc hn hcB hkB hcn;go_enter Tryz.func70,Tryz.ntmps70
 go_wp2_with fail
 go_loopw [4] (λi wr=> ∃k:Nat,k<=n/\i= .int .i64 (k:Int)/\Hid (Qb6 w s r y P o st la lc cs ka kc K (L.map Qa.r) B k wr)) (λi _=>n-(intOf i).toNat)
 case atStart=>exact ⟨0,Nat.zero_le _,rfl,Qjr⟩
 case round=>
  clear Qjr;obtain ⟨k,hk,rfl,HJ⟩:=hrel;rcases Nat.lt_or_ge k n with hlt|hge
  ·obtain ⟨Qx6,Bt,csA,Fx,Fy,KA,hC,hF,hK,hlen,Q4q,hcl⟩:=HJ.out;have Hf:k<L.length:=by have:=HN.out;omega
   have hLr:=HL.out wr hK;obtain ⟨g,off,rfl,hgl,hgr⟩:=Yr hLr.1 Hf;have hxk:(L.map Qa.r)[k]?=some L[k].r:=by rw [List.getElem?_map,List.getElem?_eq_getElem Hf];rfl
   have hxi:=HR.out.1 L[k].r (List.mem_of_getElem? hxk);have hstep:=Q58 HR.out.2.2 HR.out.1 HR.out.2.1 hxk
   have hnext:(L.map Qa.r).take (k+1)=(L.map Qa.r).take k++[L[k].r]:=by
    rw [List.take_succ_eq_append_getElem (by rw [List.length_map];exact Hf),List.getElem_map]
   have hxr:=hLr.2 L[k] (List.getElem_mem Hf);obtain ⟨x,hx⟩: ∃x,x=L[k]:=⟨_,rfl⟩;rw [<-hx] at hgr hxi hstep hnext hxr;obtain ⟨stk,Bo⟩: ∃stk,stk=Jf o st ((L.map Qa.r).take k):=⟨_,rfl⟩;rw [<-Bo] at hstep hC;obtain ⟨Ql4,hso⟩:=hstep;have hmm:stk.mm=st.mm/\stk.mc=st.mc:=by rw [Bo];exact ⟨(Fz o _ st).2.1,(Fz o _ st).2.2.1⟩
   rw [<-hmm.1,<-hmm.2] at hso;have hhas:=Ca Ql4 hxi hso;obtain ⟨hcs,Qqh⟩:=Gz Ql4 x.r.key;obtain ⟨hv,e1,e2,e3,_⟩:=Yw.1 hxi;obtain ⟨_,o1,o2,hvl,_⟩:=Zo.1 hv;obtain ⟨oN,Q1a⟩: ∃oN:Nat,x.r.o=(oN:Int):=⟨x.r.o.toNat,by omega⟩;have C7:oN<5:=by omega
   have R1:=zz (hgr wr zK)
   have how:Calls Tryz.prog 124 #[Ig x] wr λe w'=> ∃(ya:Option Addr) (yc:Nat),e= .returned (.agg #[.int .i64 (oN:Int), .int .i64 x.r.seq, .string x.r.key, .int .i64 x.r.v.m, .int .i64 x.r.v.c, .int .i64 x.r.v.o, .slice ya x.r.v.val.length yc, .bool x.r.v.gone, .int .i64 x.r.v.ttl])/\Qa.ok ⟨x.r,ya,yc⟩ w'/\(∀g,(Qa.sl ⟨x.r,ya,yc⟩).ownBlock=some g->wr.heap.size<=g)/\Kp No wr w':=by
    refine (Qdm x wr hxr (by omega)).mono ?_;rintro e w' ⟨⟨yr,ya,yc⟩,Qol,rfl,hyo,hyn,hk'⟩;have Qol:yr=x.r:=Qol;subst Qol;refine ⟨ya,yc,?_,hyo,hyn,hk'⟩;unfold Ig recC Qa.sl;simp only
    rw [Q1a]
   have HOW:=zz how;have Qdp:=zz (And.intro hC (And.intro hF (And.intro hK (And.intro hlen (And.intro Q4q hcl)))));have HX:=zz (And.intro hxi (And.intro hso (And.intro Ql4 (And.intro Q1a (And.intro hnext Bo)))));have Q6v:=zz (And.intro hcs (And.intro hv hhas));have hg3:=hgl;clear hC hF hK hlen Q4q hcl Hf hLr hgl hgr hxk hxi hnext hxr hx Bo Ql4 hso hmm hhas hcs Qqh hv e1 e2 e3 o1 o2 hvl Q1a how HJ;go_wp2_with (refine Qe rfl 46 _ rfl g (off+k*9) rfl _ _ R1 Tryz.underlying46 rfl (by kernel_rfl) ?_)
   refine HOW.out.mono ?_;rintro e w1 ⟨ya,yc,rfl,hyo,hyn,k1⟩;obtain ⟨w2,hw2⟩: ∃W,W=w1.alloc (.cells #[.int .i64 (oN:Int), .int .i64 x.r.seq, .string x.r.key, .int .i64 x.r.v.m, .int .i64 x.r.v.c, .int .i64 x.r.v.o, .slice ya x.r.v.val.length yc, .bool x.r.v.gone, .int .i64 x.r.v.ttl] 46):=⟨_,rfl⟩;obtain ⟨p,hp⟩: ∃p,p=w1.heap.size:=⟨_,rfl⟩;have k2:Kp No w1 w2:=by rw [hw2];exact zK.alloc _
   have b2:w2.heap[p]?=some (.cells #[.int .i64 (oN:Int), .int .i64 x.r.seq, .string x.r.key, .int .i64 x.r.v.m, .int .i64 x.r.v.c, .int .i64 x.r.v.o, .slice ya x.r.v.val.length yc, .bool x.r.v.gone, .int .i64 x.r.v.ttl] 46 (0,0)):=by rw [hw2,hp];exact heap_alloc_new w1 _
   have k12:=k1.trans_same k2;have hC2:=Qdp.out.1.Q5 k12;have HC2:=zz hC2;have Qz:=zz (Qdp.out.2.2.1.trans_no k12);have HZ2:=zz (show Qa.ok ⟨x.r,ya,yc⟩ w2 from Qd.ok.keep hyo k2 λ_ _ x=>x);have N8:=zz (show ¬Jj s Qx6 Bt csA Fx Fy KA p from λhg=>by have:=Qdp.out.1.lt p hg;have:=k1.size;omega);have Q0c:=zz (show w.heap.size<=p/\ ∀g,(Qa.sl ⟨x.r,ya,yc⟩).ownBlock=some g->w.heap.size<=g from ⟨by have:=Qdp.out.2.2.1.size;have:=k1.size;omega,λg hg=>by have:=hyn g hg;have:=Qdp.out.2.2.1.size;omega⟩);have HB2:=zz b2;have HW2:=zz (And.intro hw2 hp);have hkey:=Qit hC2 HX.out.2.2.1.sorted (by have:=Qdp.out.2.2.2.2.2;omega) x.r.key;have HKEY:=zz hkey;have q2:w2.cell? ⟨p,2,none⟩=some (.string x.r.key):=Q0 b2 2;have lp2:=Q3 b2;clear hyo hyn k1 hw2 hp k2 b2 k12 hC2 hkey HOW;go_upto_region 4 with (refine Qy rfl 46 _ _ rfl w1.heap.size (by rfl) _ _ _ rfl rfl (by kernel_rfl) (by rfl) (by rfl) ?_)
   rw [<-HW2.out.1,<-HW2.out.2];go_wp2_with fail
   refine HKEY.out.mono ?_;rintro e w3 ⟨i,b,rfl,hsp,k3⟩;have Ln:=zz (HC2.out.Q5 k3);have Zj:=zz (Qz.out.trans_no k3);have HB3:=zz (k3.get HB2.out λx=>x);have HZ3:=zz (show Qa.ok ⟨x.r,ya,yc⟩ w3 from Qd.ok.keep HZ2.out k3 λ_ _ x=>x);have Ls:=zz hsp;have HF3:=zz Qdp.out.2.1;have Qb2:=N8;have Q9i:=zz (And.intro Qdp.out.2.2.2.1 (And.intro Qdp.out.2.2.2.2.1 Qdp.out.2.2.2.2.2));have Qjb:=zz HX.out.2.2.1.sorted;have HW3:=zz Zj.out.size;obtain ⟨nA,hnA⟩: ∃nA,nA=csA.length:=⟨_,rfl⟩;have hiA:=hsp.le;rw [<-hnA] at hiA;have Lr:=zz hnA;have Q7c:=zz (Own.rd' Ln.out.row)
   have J1h:nA<=Bt:=by
    obtain ⟨_,a,c,e,h1,_⟩:=Ln.out.row;injection e with _ _ e3;rw [e3,hnA];exact h1
   have hnB:nA<=1000000:=by have:=Q9i.out.2.2;omega
   clear k3 hsp hnA HKEY HW2 q2 lp2 HC2 Qz HB2 HZ2;go_upto_if 28 with fail
   go_cut [7,8] from 20 to 54 (λs7 s8 wx=>Hid (Qpk w s r y P o (Jj s la lc cs ka kc K) stk x.r.key i p #[.int .i64 (oN:Int), .int .i64 x.r.seq, .string x.r.key, .int .i64 x.r.v.m, .int .i64 x.r.v.c, .int .i64 x.r.v.o, .slice ya x.r.v.val.length yc, .bool x.r.v.gone, .int .i64 x.r.v.ttl] ⟨x.r,ya,yc⟩ Fx Fy KA B k wx))
   case first=>
    cases b with
    |true=>
     have Q6x:=zz (Qc6 Ln.out Qjb.out Ls.out HF3.out Zj.out HB3.out Qb2.out HZ3.out Q9i.out.1 Q9i.out.2.2);go_wp2_with fail
     go_meet
     case rel=>exact Q6x
    |false=>
     have hTL:(csA.take i).length=i:=by have:=Lr.out;rw [List.length_take];omega
     have Du:=zz (And.intro hTL (show i<=1000000 by omega));clear hTL
     have had:Qx6=none\/ ∃g off,Qx6=some ⟨g,off,none⟩:=by
      obtain ⟨_,a,c,e,_,_,_,h4⟩:=Ln.out.row;injection e with e1;cases ha:a with
      |none=>exact .inl (e1.trans ha)
      |some ad=>
       obtain ⟨g,off,cur,rfl,_⟩:=h4 ad ha;exact .inr ⟨g,off,e1.trans ha⟩
     have HAD:=zz had;clear had;have Qep:=zz (show Rd w3 w3.heap.size Qx6 ((csA.take i).flatMap Yb) from by have h2:=Q7c.out.take (i*2);rwa [Xa Yb 2 Xd] at h2);have HS:=zz (KS.start w3 x.r.key (csA.take i) i)
     have a5: ∀W,Kp No w3 W->W.cell? ⟨s,5,none⟩=some (.slice Qx6 nA Bt):=λW hW=>by
      have:=Ln.out.at_ hW 5;rw [<-Lr.out] at this;exact this
     have p2: ∀W,Kp No w3 W->W.cell? ⟨p,2,none⟩=some (.string x.r.key):=λW hW=>Q0 (hW.get HB3.out λx=>x) 2;have ls3:=Q3 Ln.out.cell;have J8o:i<=Bt:=by omega
     have J9f:=Q3 HB3.out;go_upto_region 6 with fail
     go_cut [8] from 29 to 43 (λs8 wx=> ∃(cb:Nat) (a2:Option Addr) (c2:Nat),s8= .slice a2 (i+1) c2/\Hid (Q3x w3 wx csA i x.r.key cb a2 c2))
     case first=>
      have had:=HAD.out;clear HAD;rcases had with rfl|⟨gA,A1,rfl⟩
      all_goals
       refine Ef (Kp No w3) [2,0,0,0,0,0,0,2,0,0,0,2,0,2,2,0] (.fork [1,2,3,4,5,6,8,9,10] 0 11 (.fork [] 7 11 (.leaf [11,12,13,14,15]) (.fork [12] 7 13 (.leaf [13,14,15]) (.leaf [7,14,15]))) (.fork [12] 0 13 (.fork [] 7 13 (.leaf [13,14,15]) (.leaf [7,14,15])) (.leaf [0,7,14,15]))) (by kernel_rfl) (by kernel_rfl) (λ_ n h=>h.drewN n) zK ?_;refine Xl ?_;repeat (first|refine zA ?_|refine zB ?_|refine zC ?_)
       clear a5 p2;refine Xk (λn=>zK.drewN n) (λm0=>?_) (λm0=>?_)
       ·
        refine Q4 rfl rfl (λq=>?_);obtain ⟨we,hwe⟩: ∃W,W=World.drewN (w3.drewN m0) q:=⟨_,rfl⟩;have hS0:=KS.drawn (n:=q) (KS.drawn (n:=m0) HS.out);rw [<-hwe] at hS0⊢;clear HS hwe;go_wp2_with fail
        obtain ⟨v1,hV⟩: ∃V,V=we.alloc (.cells #[] 158):=⟨_,rfl⟩;obtain ⟨eb,heb⟩: ∃e,e=we.heap.size:=⟨_,rfl⟩;have hS1:=hS0.s0 hV heb;have HS:=zz hS1;rw [<-hV,<-heb];clear hV heb hS1 hS0;refine ⟨HS.out.kp,?_⟩;refine Ji (λm1=>?_);refine Xl ?_;refine Xk (λn=>(HS.out.kp.drewN m1).drewN n) (λm2=>?_) (λm2=>?_)
        ·
         refine Q4 rfl rfl (λq=>?_);obtain ⟨we,hwe⟩: ∃W,W=World.drewN ((v1.drewN m1).drewN m2) q:=⟨_,rfl⟩;have hS0:=KS.drawn (n:=q) (KS.drawn (n:=m2) (KS.drawn (n:=m1) HS.out));rw [<-hwe] at hS0⊢;clear HS hwe;obtain ⟨a1,c1,v2,hrun,hS1⟩:=hS0.s7 (c:=Bt) Qep.out Du.out.1 Du.out.2;have HS:=zz hS1;have Ma:=zz hrun;clear hrun hS1 hS0;refine wpList_append_run rfl rfl rfl rfl Ma.out ?_;refine wpList_nil ?_;refine ⟨rfl,HS.out.kp,?_⟩;clear Ma;refine Ji (λm3=>?_);refine Zm ?_;refine Q4 rfl rfl (λq=>?_);obtain ⟨we,hwe⟩: ∃W,W=World.drewN (v2.drewN m3) q:=⟨_,rfl⟩;have hS0:=KS.drawn (n:=q) (KS.drawn (n:=m3) HS.out);rw [<-hwe] at hS0⊢;clear HS hwe;go_wp2_with fail
         obtain ⟨v3,hV⟩: ∃V,V=we.alloc (.cells #[.slice none 0 0] 148):=⟨_,rfl⟩;obtain ⟨cb,hcb⟩: ∃e,e=we.heap.size:=⟨_,rfl⟩;have hS1:=hS0.s11 hV hcb;have HS:=zz hS1;rw [<-hV,<-hcb];clear hV hcb hS1 hS0;refine ⟨HS.out.kp,?_⟩;repeat (first|refine zA ?_|refine zB ?_|refine zC ?_)
         refine Q4 rfl rfl (λq=>?_);obtain ⟨we,hwe⟩: ∃W,W=World.drewN v3 q:=⟨_,rfl⟩;have hS0:=KS.drawn (n:=q) (HS.out);rw [<-hwe] at hS0⊢;clear HS hwe;go_wp2_with fail
         obtain ⟨v4,hV⟩: ∃V,V=we.alloc (.cells #[.string x.r.key, .pointer (some ⟨cb,0,none⟩)] 158):=⟨_,rfl⟩;obtain ⟨gb,hgb⟩: ∃e,e=we.heap.size:=⟨_,rfl⟩;have hS1:=hS0.s13 hV hgb;have HS:=zz hS1;rw [<-hV,<-hgb];clear hV hgb hS1 hS0;refine ⟨HS.out.kp,?_⟩;refine Q4 rfl rfl (λq=>?_);obtain ⟨we,hwe⟩: ∃W,W=World.drewN v4 q:=⟨_,rfl⟩;have hS0:=KS.drawn (n:=q) (HS.out);rw [<-hwe] at hS0⊢;clear HS hwe;obtain ⟨a2,c2,wE,hrun,hrel,hcbl,Ob⟩:=hS0.s14 Du.out.1 Du.out.2;have O4:=zz hrun;have HE:=zz (And.intro hrel (And.intro hcbl Ob));clear hrun hrel hcbl Ob hS0;refine wpList_append_run rfl rfl rfl rfl O4.out ?_;refine wpList_nil ?_;refine ⟨rfl,HE.out.1.2.2.2,?_⟩;clear O4;repeat (first|refine zA ?_|refine zB ?_|refine zC ?_)
         refine Q6 (λnq=>?_);obtain ⟨w4,hw4⟩: ∃W,W=wE.drewN nq:=⟨_,rfl⟩;have k4:Kp No wE w4:=by rw [hw4];exact (Kp.refl No wE).drewN nq
         have Dq:=zz (show Q3x w3 w4 csA i x.r.key cb a2 c2 from ⟨HE.out.1.keep k4,HE.out.2.1,k4.get HE.out.2.2 λx=>x⟩);rw [<-hw4];clear hw4 k4 HE;go_wp2_with fail
         go_meet
         case rel=>exact ⟨cb,a2,c2,rfl,Dq⟩
        ·
         refine Q4 rfl rfl (λq=>?_);obtain ⟨we,hwe⟩: ∃W,W=World.drewN ((v1.drewN m1).drewN m2) q:=⟨_,rfl⟩;have hS0:=KS.drawn (n:=q) (KS.drawn (n:=m2) (KS.drawn (n:=m1) HS.out));rw [<-hwe] at hS0⊢;clear HS hwe;go_wp2_with fail
         obtain ⟨v2,hV⟩: ∃V,V=we.alloc (.cells #[.slice none 0 0] 148):=⟨_,rfl⟩;obtain ⟨cb,hcb⟩: ∃e,e=we.heap.size:=⟨_,rfl⟩;have hS1:=hS0.s11 hV hcb;have HS:=zz hS1;rw [<-hV,<-hcb];clear hV hcb hS1 hS0;refine ⟨HS.out.kp,?_⟩;refine Ji (λm3=>?_);refine Xl ?_;repeat (first|refine zA ?_|refine zB ?_|refine zC ?_)
         refine Xk (λn=>(HS.out.kp.drewN m3).drewN n) (λm4=>?_) (λm4=>?_)
         ·
          refine Q4 rfl rfl (λq=>?_);obtain ⟨we,hwe⟩: ∃W,W=World.drewN ((v2.drewN m3).drewN m4) q:=⟨_,rfl⟩;have hS0:=KS.drawn (n:=q) (KS.drawn (n:=m4) (KS.drawn (n:=m3) HS.out));rw [<-hwe] at hS0⊢;clear HS hwe;obtain ⟨a1,c1,v3,hrun,hS1⟩:=hS0.s7 (c:=Bt) Qep.out Du.out.1 Du.out.2;have HS:=zz hS1;have Ma:=zz hrun;clear hrun hS1 hS0;refine wpList_append_run rfl rfl rfl rfl Ma.out ?_;refine wpList_nil ?_;refine ⟨rfl,HS.out.kp,?_⟩;clear Ma;refine Ji (λm5=>?_);refine Zm ?_;refine Q4 rfl rfl (λq=>?_);obtain ⟨we,hwe⟩: ∃W,W=World.drewN (v3.drewN m5) q:=⟨_,rfl⟩;have hS0:=KS.drawn (n:=q) (KS.drawn (n:=m5) HS.out);rw [<-hwe] at hS0⊢;clear HS hwe;go_wp2_with fail
          obtain ⟨v4,hV⟩: ∃V,V=we.alloc (.cells #[.string x.r.key, .pointer (some ⟨cb,0,none⟩)] 158):=⟨_,rfl⟩;obtain ⟨gb,hgb⟩: ∃e,e=we.heap.size:=⟨_,rfl⟩;have hS1:=hS0.s13 hV hgb;have HS:=zz hS1;rw [<-hV,<-hgb];clear hV hgb hS1 hS0;refine ⟨HS.out.kp,?_⟩;refine Q4 rfl rfl (λq=>?_);obtain ⟨we,hwe⟩: ∃W,W=World.drewN v4 q:=⟨_,rfl⟩;have hS0:=KS.drawn (n:=q) (HS.out);rw [<-hwe] at hS0⊢;clear HS hwe;obtain ⟨a2,c2,wE,hrun,hrel,hcbl,Ob⟩:=hS0.s14 Du.out.1 Du.out.2;have O4:=zz hrun;have HE:=zz (And.intro hrel (And.intro hcbl Ob));clear hrun hrel hcbl Ob hS0;refine wpList_append_run rfl rfl rfl rfl O4.out ?_;refine wpList_nil ?_;refine ⟨rfl,HE.out.1.2.2.2,?_⟩;clear O4;repeat (first|refine zA ?_|refine zB ?_|refine zC ?_)
          refine Q6 (λnq=>?_);obtain ⟨w4,hw4⟩: ∃W,W=wE.drewN nq:=⟨_,rfl⟩;have k4:Kp No wE w4:=by rw [hw4];exact (Kp.refl No wE).drewN nq
          have Dq:=zz (show Q3x w3 w4 csA i x.r.key cb a2 c2 from ⟨HE.out.1.keep k4,HE.out.2.1,k4.get HE.out.2.2 λx=>x⟩);rw [<-hw4];clear hw4 k4 HE;go_wp2_with fail
          go_meet
          case rel=>exact ⟨cb,a2,c2,rfl,Dq⟩
         ·
          refine Q4 rfl rfl (λq=>?_);obtain ⟨we,hwe⟩: ∃W,W=World.drewN ((v2.drewN m3).drewN m4) q:=⟨_,rfl⟩;have hS0:=KS.drawn (n:=q) (KS.drawn (n:=m4) (KS.drawn (n:=m3) HS.out));rw [<-hwe] at hS0⊢;clear HS hwe;go_wp2_with fail
          obtain ⟨v3,hV⟩: ∃V,V=we.alloc (.cells #[.string x.r.key, .pointer (some ⟨cb,0,none⟩)] 158):=⟨_,rfl⟩;obtain ⟨gb,hgb⟩: ∃e,e=we.heap.size:=⟨_,rfl⟩;have hS1:=hS0.s13 hV hgb;have HS:=zz hS1;rw [<-hV,<-hgb];clear hV hgb hS1 hS0;refine ⟨HS.out.kp,?_⟩;refine Ji (λm5=>?_);refine Zm ?_;refine Q4 rfl rfl (λq=>?_);obtain ⟨we,hwe⟩: ∃W,W=World.drewN (v3.drewN m5) q:=⟨_,rfl⟩;have hS0:=KS.drawn (n:=q) (KS.drawn (n:=m5) HS.out);rw [<-hwe] at hS0⊢;clear HS hwe;obtain ⟨a1,c1,v4,hrun,hS1⟩:=hS0.s7 (c:=Bt) Qep.out Du.out.1 Du.out.2;have HS:=zz hS1;have Ma:=zz hrun;clear hrun hS1 hS0;refine wpList_append_run rfl rfl rfl rfl Ma.out ?_;refine wpList_nil ?_;refine ⟨rfl,HS.out.kp,?_⟩;clear Ma;refine Q4 rfl rfl (λq=>?_);obtain ⟨we,hwe⟩: ∃W,W=World.drewN v4 q:=⟨_,rfl⟩;have hS0:=KS.drawn (n:=q) (HS.out);rw [<-hwe] at hS0⊢;clear HS hwe;obtain ⟨a2,c2,wE,hrun,hrel,hcbl,Ob⟩:=hS0.s14 Du.out.1 Du.out.2;have O4:=zz hrun;have HE:=zz (And.intro hrel (And.intro hcbl Ob));clear hrun hrel hcbl Ob hS0;refine wpList_append_run rfl rfl rfl rfl O4.out ?_;refine wpList_nil ?_;refine ⟨rfl,HE.out.1.2.2.2,?_⟩;clear O4;repeat (first|refine zA ?_|refine zB ?_|refine zC ?_)
          refine Q6 (λnq=>?_);obtain ⟨w4,hw4⟩: ∃W,W=wE.drewN nq:=⟨_,rfl⟩;have k4:Kp No wE w4:=by rw [hw4];exact (Kp.refl No wE).drewN nq
          have Dq:=zz (show Q3x w3 w4 csA i x.r.key cb a2 c2 from ⟨HE.out.1.keep k4,HE.out.2.1,k4.get HE.out.2.2 λx=>x⟩);rw [<-hw4];clear hw4 k4 HE;go_wp2_with fail
          go_meet
          case rel=>exact ⟨cb,a2,c2,rfl,Dq⟩
       ·
        refine Q4 rfl rfl (λq=>?_);obtain ⟨we,hwe⟩: ∃W,W=World.drewN (w3.drewN m0) q:=⟨_,rfl⟩;have hS0:=KS.drawn (n:=q) (KS.drawn (n:=m0) HS.out);rw [<-hwe] at hS0⊢;clear HS hwe;go_wp2_with fail
        obtain ⟨v1,hV⟩: ∃V,V=we.alloc (.cells #[.slice none 0 0] 148):=⟨_,rfl⟩;obtain ⟨cb,hcb⟩: ∃e,e=we.heap.size:=⟨_,rfl⟩;have hS1:=hS0.s11 hV hcb;have HS:=zz hS1;rw [<-hV,<-hcb];clear hV hcb hS1 hS0;refine ⟨HS.out.kp,?_⟩;refine Ji (λm1=>?_);refine Xl ?_;repeat (first|refine zA ?_|refine zB ?_|refine zC ?_)
        refine Xk (λn=>(HS.out.kp.drewN m1).drewN n) (λm2=>?_) (λm2=>?_)
        ·
         refine Q4 rfl rfl (λq=>?_);obtain ⟨we,hwe⟩: ∃W,W=World.drewN ((v1.drewN m1).drewN m2) q:=⟨_,rfl⟩;have hS0:=KS.drawn (n:=q) (KS.drawn (n:=m2) (KS.drawn (n:=m1) HS.out));rw [<-hwe] at hS0⊢;clear HS hwe;go_wp2_with fail
         obtain ⟨v2,hV⟩: ∃V,V=we.alloc (.cells #[] 158):=⟨_,rfl⟩;obtain ⟨eb,heb⟩: ∃e,e=we.heap.size:=⟨_,rfl⟩;have hS1:=hS0.s0 hV heb;have HS:=zz hS1;rw [<-hV,<-heb];clear hV heb hS1 hS0;refine ⟨HS.out.kp,?_⟩;refine Ji (λm3=>?_);refine Xl ?_;refine Xk (λn=>(HS.out.kp.drewN m3).drewN n) (λm4=>?_) (λm4=>?_)
         ·
          refine Q4 rfl rfl (λq=>?_);obtain ⟨we,hwe⟩: ∃W,W=World.drewN ((v2.drewN m3).drewN m4) q:=⟨_,rfl⟩;have hS0:=KS.drawn (n:=q) (KS.drawn (n:=m4) (KS.drawn (n:=m3) HS.out));rw [<-hwe] at hS0⊢;clear HS hwe;obtain ⟨a1,c1,v3,hrun,hS1⟩:=hS0.s7 (c:=Bt) Qep.out Du.out.1 Du.out.2;have HS:=zz hS1;have Ma:=zz hrun;clear hrun hS1 hS0;refine wpList_append_run rfl rfl rfl rfl Ma.out ?_;refine wpList_nil ?_;refine ⟨rfl,HS.out.kp,?_⟩;clear Ma;refine Ji (λm5=>?_);refine Zm ?_;refine Q4 rfl rfl (λq=>?_);obtain ⟨we,hwe⟩: ∃W,W=World.drewN (v3.drewN m5) q:=⟨_,rfl⟩;have hS0:=KS.drawn (n:=q) (KS.drawn (n:=m5) HS.out);rw [<-hwe] at hS0⊢;clear HS hwe;go_wp2_with fail
          obtain ⟨v4,hV⟩: ∃V,V=we.alloc (.cells #[.string x.r.key, .pointer (some ⟨cb,0,none⟩)] 158):=⟨_,rfl⟩;obtain ⟨gb,hgb⟩: ∃e,e=we.heap.size:=⟨_,rfl⟩;have hS1:=hS0.s13 hV hgb;have HS:=zz hS1;rw [<-hV,<-hgb];clear hV hgb hS1 hS0;refine ⟨HS.out.kp,?_⟩;refine Q4 rfl rfl (λq=>?_);obtain ⟨we,hwe⟩: ∃W,W=World.drewN v4 q:=⟨_,rfl⟩;have hS0:=KS.drawn (n:=q) (HS.out);rw [<-hwe] at hS0⊢;clear HS hwe;obtain ⟨a2,c2,wE,hrun,hrel,hcbl,Ob⟩:=hS0.s14 Du.out.1 Du.out.2;have O4:=zz hrun;have HE:=zz (And.intro hrel (And.intro hcbl Ob));clear hrun hrel hcbl Ob hS0;refine wpList_append_run rfl rfl rfl rfl O4.out ?_;refine wpList_nil ?_;refine ⟨rfl,HE.out.1.2.2.2,?_⟩;clear O4;repeat (first|refine zA ?_|refine zB ?_|refine zC ?_)
          refine Q6 (λnq=>?_);obtain ⟨w4,hw4⟩: ∃W,W=wE.drewN nq:=⟨_,rfl⟩;have k4:Kp No wE w4:=by rw [hw4];exact (Kp.refl No wE).drewN nq
          have Dq:=zz (show Q3x w3 w4 csA i x.r.key cb a2 c2 from ⟨HE.out.1.keep k4,HE.out.2.1,k4.get HE.out.2.2 λx=>x⟩);rw [<-hw4];clear hw4 k4 HE;go_wp2_with fail
          go_meet
          case rel=>exact ⟨cb,a2,c2,rfl,Dq⟩
         ·
          refine Q4 rfl rfl (λq=>?_);obtain ⟨we,hwe⟩: ∃W,W=World.drewN ((v2.drewN m3).drewN m4) q:=⟨_,rfl⟩;have hS0:=KS.drawn (n:=q) (KS.drawn (n:=m4) (KS.drawn (n:=m3) HS.out));rw [<-hwe] at hS0⊢;clear HS hwe;go_wp2_with fail
          obtain ⟨v3,hV⟩: ∃V,V=we.alloc (.cells #[.string x.r.key, .pointer (some ⟨cb,0,none⟩)] 158):=⟨_,rfl⟩;obtain ⟨gb,hgb⟩: ∃e,e=we.heap.size:=⟨_,rfl⟩;have hS1:=hS0.s13 hV hgb;have HS:=zz hS1;rw [<-hV,<-hgb];clear hV hgb hS1 hS0;refine ⟨HS.out.kp,?_⟩;refine Ji (λm5=>?_);refine Zm ?_;refine Q4 rfl rfl (λq=>?_);obtain ⟨we,hwe⟩: ∃W,W=World.drewN (v3.drewN m5) q:=⟨_,rfl⟩;have hS0:=KS.drawn (n:=q) (KS.drawn (n:=m5) HS.out);rw [<-hwe] at hS0⊢;clear HS hwe;obtain ⟨a1,c1,v4,hrun,hS1⟩:=hS0.s7 (c:=Bt) Qep.out Du.out.1 Du.out.2;have HS:=zz hS1;have Ma:=zz hrun;clear hrun hS1 hS0;refine wpList_append_run rfl rfl rfl rfl Ma.out ?_;refine wpList_nil ?_;refine ⟨rfl,HS.out.kp,?_⟩;clear Ma;refine Q4 rfl rfl (λq=>?_);obtain ⟨we,hwe⟩: ∃W,W=World.drewN v4 q:=⟨_,rfl⟩;have hS0:=KS.drawn (n:=q) (HS.out);rw [<-hwe] at hS0⊢;clear HS hwe;obtain ⟨a2,c2,wE,hrun,hrel,hcbl,Ob⟩:=hS0.s14 Du.out.1 Du.out.2;have O4:=zz hrun;have HE:=zz (And.intro hrel (And.intro hcbl Ob));clear hrun hrel hcbl Ob hS0;refine wpList_append_run rfl rfl rfl rfl O4.out ?_;refine wpList_nil ?_;refine ⟨rfl,HE.out.1.2.2.2,?_⟩;clear O4;repeat (first|refine zA ?_|refine zB ?_|refine zC ?_)
          refine Q6 (λnq=>?_);obtain ⟨w4,hw4⟩: ∃W,W=wE.drewN nq:=⟨_,rfl⟩;have k4:Kp No wE w4:=by rw [hw4];exact (Kp.refl No wE).drewN nq
          have Dq:=zz (show Q3x w3 w4 csA i x.r.key cb a2 c2 from ⟨HE.out.1.keep k4,HE.out.2.1,k4.get HE.out.2.2 λx=>x⟩);rw [<-hw4];clear hw4 k4 HE;go_wp2_with fail
          go_meet
          case rel=>exact ⟨cb,a2,c2,rfl,Dq⟩
        ·
         refine Q4 rfl rfl (λq=>?_);obtain ⟨we,hwe⟩: ∃W,W=World.drewN ((v1.drewN m1).drewN m2) q:=⟨_,rfl⟩;have hS0:=KS.drawn (n:=q) (KS.drawn (n:=m2) (KS.drawn (n:=m1) HS.out));rw [<-hwe] at hS0⊢;clear HS hwe;go_wp2_with fail
         obtain ⟨v2,hV⟩: ∃V,V=we.alloc (.cells #[.string x.r.key, .pointer (some ⟨cb,0,none⟩)] 158):=⟨_,rfl⟩;obtain ⟨gb,hgb⟩: ∃e,e=we.heap.size:=⟨_,rfl⟩;have hS1:=hS0.s13 hV hgb;have HS:=zz hS1;rw [<-hV,<-hgb];clear hV hgb hS1 hS0;refine ⟨HS.out.kp,?_⟩;refine Ji (λm3=>?_);refine Zm ?_;refine Q4 rfl rfl (λq=>?_);obtain ⟨we,hwe⟩: ∃W,W=World.drewN (v2.drewN m3) q:=⟨_,rfl⟩;have hS0:=KS.drawn (n:=q) (KS.drawn (n:=m3) HS.out);rw [<-hwe] at hS0⊢;clear HS hwe;go_wp2_with fail
         obtain ⟨v3,hV⟩: ∃V,V=we.alloc (.cells #[] 158):=⟨_,rfl⟩;obtain ⟨eb,heb⟩: ∃e,e=we.heap.size:=⟨_,rfl⟩;have hS1:=hS0.s0 hV heb;have HS:=zz hS1;rw [<-hV,<-heb];clear hV heb hS1 hS0;refine ⟨HS.out.kp,?_⟩;refine Q4 rfl rfl (λq=>?_);obtain ⟨we,hwe⟩: ∃W,W=World.drewN v3 q:=⟨_,rfl⟩;have hS0:=KS.drawn (n:=q) (HS.out);rw [<-hwe] at hS0⊢;clear HS hwe;obtain ⟨a1,c1,v4,hrun,hS1⟩:=hS0.s7 (c:=Bt) Qep.out Du.out.1 Du.out.2;have HS:=zz hS1;have Ma:=zz hrun;clear hrun hS1 hS0;refine wpList_append_run rfl rfl rfl rfl Ma.out ?_;refine wpList_nil ?_;refine ⟨rfl,HS.out.kp,?_⟩;clear Ma;refine Q4 rfl rfl (λq=>?_);obtain ⟨we,hwe⟩: ∃W,W=World.drewN v4 q:=⟨_,rfl⟩;have hS0:=KS.drawn (n:=q) (HS.out);rw [<-hwe] at hS0⊢;clear HS hwe;obtain ⟨a2,c2,wE,hrun,hrel,hcbl,Ob⟩:=hS0.s14 Du.out.1 Du.out.2;have O4:=zz hrun;have HE:=zz (And.intro hrel (And.intro hcbl Ob));clear hrun hrel hcbl Ob hS0;refine wpList_append_run rfl rfl rfl rfl O4.out ?_;refine wpList_nil ?_;refine ⟨rfl,HE.out.1.2.2.2,?_⟩;clear O4;repeat (first|refine zA ?_|refine zB ?_|refine zC ?_)
         refine Q6 (λnq=>?_);obtain ⟨w4,hw4⟩: ∃W,W=wE.drewN nq:=⟨_,rfl⟩;have k4:Kp No wE w4:=by rw [hw4];exact (Kp.refl No wE).drewN nq
         have Dq:=zz (show Q3x w3 w4 csA i x.r.key cb a2 c2 from ⟨HE.out.1.keep k4,HE.out.2.1,k4.get HE.out.2.2 λx=>x⟩);rw [<-hw4];clear hw4 k4 HE;go_wp2_with fail
         go_meet
         case rel=>exact ⟨cb,a2,c2,rfl,Dq⟩
     case rest=>
     obtain ⟨cb,a2,c2,rfl,Dq⟩:=hcut;rename World=>w4;clear a5 p2 HS ls3 J9f;have had:=HAD.out;clear HAD;rcases Nat.lt_or_ge i nA with hin|hin
     ·rcases had with rfl|⟨gA,A1,rfl⟩
      ·have:=Ln.out.row;obtain ⟨_,a,c,e,h1,_,h3,_⟩:=this;injection e with e1 e2 e3;have:=h3 e1.symm;have:=Lr.out;omega
      ·
       have HDK:=zz (show Rd w3 w3.heap.size (some ⟨gA,A1+i*2,none⟩) ((csA.drop i).flatMap Yb) from by
        have h2:=Q7c.out.drop (i*2);rw [Yn Yb 2 Xd] at h2;simpa [Option.map,Jq] using h2)
       have Uv:=zz (show (csA.drop i).length=(nA-i)/\i+1+(nA-i)=nA+1 from ⟨by have:=Lr.out;rw [List.length_drop];omega,by omega⟩);obtain ⟨a3,c3,w5,hrun,hrel,hk5⟩:=Qq.app (P:=Tryz.prog) (T:=59) Tryz.underlying59 Kd E8 Dq.out.1 (csA.drop i) (Yf (f:=Yb) (c:=(Bt-i)) Xd (Rd.kp HDK.out Dq.out.1.2.2.2)) rfl (by have:=Du.out.2;have:=Uv.out.1;unfold maxLen;omega) (by have:=Du.out.2;have:=Uv.out.1;omega);rw [Uv.out.1,Uv.out.2,List.append_assoc] at hrel;rw [Uv.out.1,Uv.out.2] at hrun;have Lk:=Ln.out.Q5 hrel.2.2.2
       have Q6x:=zz (Cc Ln.out Qjb.out Ls.out HF3.out Zj.out HW3.out HB3.out Qb2.out HZ3.out Q9i.out.1 Q9i.out.2.2 Dq.out (show Qq 158 2 Yb w3 w5 (.slice a3 (csA.length+1) c3) (csA.length+1) (csA.take i++(x.r.key,⟨cb,none,0,[]⟩)::csA.drop i) from by
        have e:nA+1=csA.length+1:=by have:=Lr.out;omega
        rw [<-e];exact hrel) hk5)
       have c5:w5.cell? ⟨s,5,none⟩=some (.slice (some ⟨gA,A1,none⟩) nA Bt):=by
        have:=Lk.at_ (Kp.refl _ w5) 5;rw [<-Lr.out] at this;exact this
       have f5:=Qc Lk.cell 5;have l5:=Q3 Lk.cell
       have c4:w4.cell? ⟨s,5,none⟩=some (.slice (some ⟨gA,A1,none⟩) nA Bt):=by
        have:=(Ln.out.Q5 Dq.out.1.2.2.2).at_ (Kp.refl _ w4) 5;rw [<-Lr.out] at this;exact this
       have l4:=Q3 (Ln.out.Q5 Dq.out.1.2.2.2).cell;rw [<-Lr.out] at Q6x;have HX:=zz hrun;clear hrun hrel hk5 Lk;go_wp2_with (at_builtin;refine wpList_append_run rfl rfl rfl rfl HX.out ?_;clear HX)
       go_meet
       case rel=>exact Q6x
     ·have hie:i=nA:=by omega
      clear hin;subst hie;rcases had with rfl|⟨gA,A1,rfl⟩
      ·
       have HDK:=zz (show Rd w3 w3.heap.size none ((csA.drop i).flatMap Yb) from by
        rw [List.drop_of_length_le (by have:=Lr.out;omega)];exact Rd.nil _ _ _)
       have Uv:=zz (show (csA.drop i).length=0/\i+1+0=i+1 from ⟨by have:=Lr.out;rw [List.length_drop];omega,by omega⟩);obtain ⟨a3,c3,w5,hrun,hrel,hk5⟩:=Qq.app (P:=Tryz.prog) (T:=59) Tryz.underlying59 Kd E8 Dq.out.1 (csA.drop i) (Yf (f:=Yb) (c:=(Bt-i)) Xd (Rd.kp HDK.out Dq.out.1.2.2.2)) rfl (by have:=Du.out.2;have:=Uv.out.1;unfold maxLen;omega) (by have:=Du.out.2;have:=Uv.out.1;omega);rw [Uv.out.1,Uv.out.2,List.append_assoc] at hrel;rw [Uv.out.1,Uv.out.2] at hrun;have Lk:=Ln.out.Q5 hrel.2.2.2
       have Q6x:=zz (Cc Ln.out Qjb.out Ls.out HF3.out Zj.out HW3.out HB3.out Qb2.out HZ3.out Q9i.out.1 Q9i.out.2.2 Dq.out (show Qq 158 2 Yb w3 w5 (.slice a3 (csA.length+1) c3) (csA.length+1) (csA.take i++(x.r.key,⟨cb,none,0,[]⟩)::csA.drop i) from by
        have e:i+1=csA.length+1:=by have:=Lr.out;omega
        rw [<-e];exact hrel) hk5)
       have c5:w5.cell? ⟨s,5,none⟩=some (.slice none i Bt):=by
        have:=Lk.at_ (Kp.refl _ w5) 5;rw [<-Lr.out] at this;exact this
       have f5:=Qc Lk.cell 5;have l5:=Q3 Lk.cell
       have c4:w4.cell? ⟨s,5,none⟩=some (.slice none i Bt):=by
        have:=(Ln.out.Q5 Dq.out.1.2.2.2).at_ (Kp.refl _ w4) 5;rw [<-Lr.out] at this;exact this
       have l4:=Q3 (Ln.out.Q5 Dq.out.1.2.2.2).cell;rw [<-Lr.out] at Q6x;have HX:=zz hrun;clear hrun hrel hk5 Lk;go_wp2_with (at_builtin;refine wpList_append_run rfl rfl rfl rfl HX.out ?_;clear HX)
       go_meet
       case rel=>exact Q6x
      ·by_cases hrk:Bt=i
       ·
        have HDK:=zz (show Rd w3 w3.heap.size (some ⟨gA,A1,none⟩) ((csA.drop i).flatMap Yb) from by
         rw [List.drop_of_length_le (by have:=Lr.out;omega)];exact Rd.nil _ _ _)
        have Uv:=zz (show (csA.drop i).length=0/\i+1+0=i+1 from ⟨by have:=Lr.out;rw [List.length_drop];omega,by omega⟩);obtain ⟨a3,c3,w5,hrun,hrel,hk5⟩:=Qq.app (P:=Tryz.prog) (T:=59) Tryz.underlying59 Kd E8 Dq.out.1 (csA.drop i) (Yf (f:=Yb) (c:=(Bt-i)) Xd (Rd.kp HDK.out Dq.out.1.2.2.2)) rfl (by have:=Du.out.2;have:=Uv.out.1;unfold maxLen;omega) (by have:=Du.out.2;have:=Uv.out.1;omega);rw [Uv.out.1,Uv.out.2,List.append_assoc] at hrel;rw [Uv.out.1,Uv.out.2] at hrun;have Lk:=Ln.out.Q5 hrel.2.2.2
        have Q6x:=zz (Cc Ln.out Qjb.out Ls.out HF3.out Zj.out HW3.out HB3.out Qb2.out HZ3.out Q9i.out.1 Q9i.out.2.2 Dq.out (show Qq 158 2 Yb w3 w5 (.slice a3 (csA.length+1) c3) (csA.length+1) (csA.take i++(x.r.key,⟨cb,none,0,[]⟩)::csA.drop i) from by
         have e:i+1=csA.length+1:=by have:=Lr.out;omega
         rw [<-e];exact hrel) hk5)
        have c5:w5.cell? ⟨s,5,none⟩=some (.slice (some ⟨gA,A1,none⟩) i Bt):=by
         have:=Lk.at_ (Kp.refl _ w5) 5;rw [<-Lr.out] at this;exact this
        have f5:=Qc Lk.cell 5;have l5:=Q3 Lk.cell
        have c4:w4.cell? ⟨s,5,none⟩=some (.slice (some ⟨gA,A1,none⟩) i Bt):=by
         have:=(Ln.out.Q5 Dq.out.1.2.2.2).at_ (Kp.refl _ w4) 5;rw [<-Lr.out] at this;exact this
        have l4:=Q3 (Ln.out.Q5 Dq.out.1.2.2.2).cell;rw [<-Lr.out] at Q6x;have HX:=zz hrun;clear hrun hrel hk5 Lk;go_wp2_with (at_builtin;refine wpList_append_run rfl rfl rfl rfl HX.out ?_;clear HX)
        go_meet
        case rel=>exact Q6x
       ·
        have HDK:=zz (show Rd w3 w3.heap.size (some ⟨gA,A1+i*2,none⟩) ((csA.drop i).flatMap Yb) from by
         rw [List.drop_of_length_le (by have:=Lr.out;omega)];exact Rd.nil _ _ _)
        have Uv:=zz (show (csA.drop i).length=0/\i+1+0=i+1 from ⟨by have:=Lr.out;rw [List.length_drop];omega,by omega⟩);obtain ⟨a3,c3,w5,hrun,hrel,hk5⟩:=Qq.app (P:=Tryz.prog) (T:=59) Tryz.underlying59 Kd E8 Dq.out.1 (csA.drop i) (Yf (f:=Yb) (c:=(Bt-i)) Xd (Rd.kp HDK.out Dq.out.1.2.2.2)) rfl (by have:=Du.out.2;have:=Uv.out.1;unfold maxLen;omega) (by have:=Du.out.2;have:=Uv.out.1;omega);rw [Uv.out.1,Uv.out.2,List.append_assoc] at hrel;rw [Uv.out.1,Uv.out.2] at hrun;have Lk:=Ln.out.Q5 hrel.2.2.2
        have Q6x:=zz (Cc Ln.out Qjb.out Ls.out HF3.out Zj.out HW3.out HB3.out Qb2.out HZ3.out Q9i.out.1 Q9i.out.2.2 Dq.out (show Qq 158 2 Yb w3 w5 (.slice a3 (csA.length+1) c3) (csA.length+1) (csA.take i++(x.r.key,⟨cb,none,0,[]⟩)::csA.drop i) from by
         have e:i+1=csA.length+1:=by have:=Lr.out;omega
         rw [<-e];exact hrel) hk5)
        have c5:w5.cell? ⟨s,5,none⟩=some (.slice (some ⟨gA,A1,none⟩) i Bt):=by
         have:=Lk.at_ (Kp.refl _ w5) 5;rw [<-Lr.out] at this;exact this
        have f5:=Qc Lk.cell 5;have l5:=Q3 Lk.cell
        have c4:w4.cell? ⟨s,5,none⟩=some (.slice (some ⟨gA,A1,none⟩) i Bt):=by
         have:=(Ln.out.Q5 Dq.out.1.2.2.2).at_ (Kp.refl _ w4) 5;rw [<-Lr.out] at this;exact this
        have l4:=Q3 (Ln.out.Q5 Dq.out.1.2.2.2).cell;rw [<-Lr.out] at Q6x;have HX:=zz hrun;clear hrun hrel hk5 Lk;go_wp2_with (at_builtin;refine wpList_append_run rfl rfl rfl rfl HX.out ?_;clear HX)
        go_meet
        case rel=>exact Q6x
   case rest=>
   have J3o:=hcut;rename World=>w5;obtain ⟨Qlr,Qc5,cs2,keysA,hC2,hsc2,⟨hi2,Qqr,Q2m⟩,Qog,hF2,hK2,hB2,Qwi,hz2,hl2,Qvd⟩:=J3o.out;obtain ⟨g2,Qhm,rfl,hrow2⟩:=Ye (f:=Yb) (c:=2) Xd (by decide) (Own.rd' hC2.row) hi2;obtain ⟨q,hq⟩: ∃q,q=cs2[i]:=⟨_,rfl⟩;rw [<-hq] at Qqr Q2m hrow2;obtain ⟨n2,hn2⟩: ∃n2,n2=cs2.length:=⟨_,rfl⟩;have hin2:i<n2:=by omega
   have a5: ∀W,Kp No w5 W->W.cell? ⟨s,5,none⟩=some (.slice (some ⟨g2,Qhm,none⟩) n2 Qc5):=λW hW=>by
    have:=hC2.at_ hW 5;rw [<-hn2] at this;exact this
   have a1: ∀W,Kp No w5 W->W.cell? ⟨g2,Qhm+i*2+1,none⟩=some (.pointer (some ⟨q.2.b,0,none⟩)):=λW hW=>hrow2 W hW 1 _ rfl;have RV:=zz (show ∀W,Kp No w5 W->W.rangeAt p 3 [.int .i64 x.r.v.m, .int .i64 x.r.v.c, .int .i64 x.r.v.o, .slice ya x.r.v.val.length yc, .bool x.r.v.gone, .int .i64 x.r.v.ttl] from λW hW=>by have:=Qb (hW.get hB2 λx=>x) 3 6;exact this);have hco:=hC2.Vl.each q (by rw [hq];exact List.getElem_mem hi2);have hlq:=hl2 q (by rw [hq];exact List.getElem_mem hi2)
   have hput: ∀W,Kp No w5 W->Calls Tryz.prog 77 #[.pointer (some ⟨q.2.b,0,none⟩), .agg #[.int .i64 x.r.v.m, .int .i64 x.r.v.c, .int .i64 x.r.v.o, .slice ya x.r.v.val.length yc, .bool x.r.v.gone, .int .i64 x.r.v.ttl]] W λe w'=>e= .returned (.int .i64 0)/\ ∃c',Qb8 148 q.2 c' x.r.v W w':=λW hW=>by
    refine Q1w W q.2 ⟨x.r.v,ya,yc⟩ (hco.Q5 hW) ?_ (Qd.Fg (Qa.ok.rd hz2) hW) Q6v.out.2.1 ?_ (by omega)
    ·rw [Q2m];exact Q6v.out.1
    ·rw [Q2m];exact Q6v.out.2.2
   have Qel:=zz hput;have Q6x:=zz (show ∃hj:i<cs2.length,q=cs2[i] from ⟨hi2,hq⟩);have Lo:=zz (And.intro hC2 (And.intro hsc2 (And.intro Qqr (And.intro Q2m (And.intro Qog (And.intro hF2 (And.intro hK2 (And.intro hl2 Qvd))))))));have Q0q:=zz (And.intro hB2 (And.intro Qwi hz2));have Jb0:=Q3 hC2.cell;have Jaz:=Q3 hB2
   have Jay:g2<w5.heap.size:=by
    obtain ⟨cur,hcur⟩:=hC2.row.type g2 rfl;exact Q3 hcur
   have Qnj:=zz hn2;have Qyt:=zz hco;clear hC2 hsc2 hi2 Qqr Q2m Qog hF2 hK2 hB2 Qwi hz2 hl2 Qvd hrow2 hq hco hlq hput hn2 hcut J3o Ls Qjb Ln HB3 Zj HF3 Qb2 HZ3 Lr Q7c J1h hnB hiA;go_upto_region 8 with fail
   refine J4 (Kp No w5) [0,0,0,0,0,0,0,0,0,0,2] [0,1,2,3,4,5,6,7,8,9] 10 (by kernel_rfl) (by kernel_rfl) (λ_ n h=>h.drewN n) zK ?_;repeat (first|refine zA ?_|refine zB ?_|refine zC ?_)
   (try (apply Q8 rfl rfl rfl;(focus (intro W hW;exact Q9 44 _ rfl p 3 rfl [.int .i64 x.r.v.m, .int .i64 x.r.v.c, .int .i64 x.r.v.o, .slice ya x.r.v.val.length yc, .bool x.r.v.gone, .int .i64 x.r.v.ttl] _ (RV.out W hW) Tryz.underlying44 rfl (by kernel_rfl)));(focus (go_simp;rfl))))
   repeat (first|refine zA ?_|refine zB ?_|refine zC ?_)
   refine Yc (λn1=>?_);refine Q4 rfl rfl (λJ9i=>?_);obtain ⟨we,hwe⟩: ∃W,W=World.drewN (World.drewN w5 n1) J9i:=⟨_,rfl⟩;have Qvu:Kp No w5 we:=by rw [hwe];exact ⟨rfl,rfl,rfl,Nat.le_refl _,λ_ _ _=>rfl⟩
   rw [<-hwe];have Q3k:=zz Qvu;clear hwe a5 a1 Qvu;go_wp2_with fail
   refine (Qel.out we Q3k.out).mono ?_;rintro e w6 ⟨rfl,c6,Qji⟩;have Q05:=zz Qji;clear Qji Qel;go_wp2_with fail
   intro nr;obtain ⟨w8,hw8⟩: ∃W,W=w6.drewN nr:=⟨_,rfl⟩;have J5w:Kp No w6 w8:=by rw [hw8];exact (Kp.refl No w6).drewN nr
   obtain ⟨stB,Q4w,Qkk,J4v,J4z,hK8,J4u,Qwj,J5u,Qyd,Qve⟩:=Qls Lo.out Q0q.out Q6x.out Q3k.out Q05.out J5w;have Ys:=zz Q4w;have Q76:=zz J4v;have Hv:=zz J4z;have Kx:=zz hK8;have El:=zz J4u;have Qj9:=zz Qwj;have J4a:=zz J5u;have Qee:=zz (And.intro Qyd Qve);rw [<-hw8];clear hw8 J5w Q4w J4v J4z hK8 J4u Qwj J5u Qyd Qve Q05 Q3k Lo Q0q Q6x Qyt RV;have hs8:=Q3 Q76.out.cell;have Qr3:=Q3 El.out;have hps:p≠s:=λe=>Qj9.out (.inl e);have d0: ∀W,Kp (Mer.One s) w8 W->W.cell? ⟨p,0,none⟩=some (.int .i64 (oN:Int)):=λW hW=>Q0 (hW.get El.out λe=>hps e) 0;have d1: ∀W,Kp (Mer.One s) w8 W->W.cell? ⟨p,1,none⟩=some (.int .i64 x.r.seq):=λW hW=>Q0 (hW.get El.out λe=>hps e) 1;have RT:=zz (show ∀W,Kp (Mer.One s) w8 W->W.rangeAt p 3 [.int .i64 x.r.v.m, .int .i64 x.r.v.c] from λW hW=>by have:=Qb (hW.get El.out λe=>hps e) 3 2;exact this);go_upto_region 9 with fail
   refine zD (Mer.One s) [0,0,0,0,0,0,0,0,0,0,0,0,2] [0,1,2,3,4,5,6,7,8,9,10,11,12] ?_;repeat (first|refine zA ?_|refine zB ?_|refine zC ?_)
   (try (apply Q8 rfl rfl rfl;(focus (intro W hW;exact Q9 25 _ rfl p 3 rfl [.int .i64 x.r.v.m, .int .i64 x.r.v.c] _ (RT.out W hW) Tryz.underlying25 rfl (by kernel_rfl)));(focus (go_simp;rfl))))
   repeat (first|refine zA ?_|refine zB ?_|refine zC ?_)
   apply Q8 rfl rfl rfl
   ·(focus (intro _ _;go_simp;rw [if_pos (show ((oN:Nat):Int)<5 from Int.ofNat_lt.2 C7)]))
   ·(focus (go_simp;rfl))
   refine Q4 rfl rfl (λq8=>?_);obtain ⟨w9,Ll⟩: ∃W,W=w8.drewN q8:=⟨_,rfl⟩;have Q3m:Kp No w8 w9:=by rw [Ll];exact (Kp.refl No w8).drewN q8
   have Ml:=Q3m.get Q76.out.cell λx=>x
   have Dj:w9.rangeAt s 8 (Nn stB.of):=by
    have:=Qb Ml 8 15;rwa [Qiy] at this
   have g3:=Uc stB.of C7;have g0:w9.cell? ⟨s,8+oN*3,none⟩=some (.int .i64 (Qp stB.of oN).seq):=Dj _ _ g3.1;have g1:w9.cell? ⟨s,8+oN*3+1,none⟩=some (.int .i64 (Qp stB.of oN).m):=Dj _ _ g3.2.1;have g2:w9.cell? ⟨s,8+oN*3+2,none⟩=some (.int .i64 (Qp stB.of oN).c):=Dj _ _ g3.2.2;have f0:=Qc Ml (8+oN*3);have f1:=Qc Ml (8+oN*3+1);have f2:=Qc Ml (8+oN*3+2);have hs9:=Q3 Ml;have Q77:=zz (Q76.out.Q5 Q3m);have Q3t:=zz Q3m;rw [<-Ll];clear Ll Q3m Ml Dj g3;go_wp2_with fail
   have Q4s:stB.of.length=5:=by rw [Ys.out];exact HX.out.2.2.1.Qlz
   have Bn:=Q77.out.setOf (dn:=⟨x.r.seq,x.r.v.m,x.r.v.c⟩) Q4s C7;obtain ⟨wA,hwA⟩: ∃W,W=(((w9.setCell ⟨s,8+oN*3,none⟩ (.int .i64 x.r.seq)).setCell ⟨s,8+oN*3+1,none⟩ (.int .i64 x.r.v.m)).setCell ⟨s,8+oN*3+2,none⟩ (.int .i64 x.r.v.c)):=⟨_,rfl⟩
   have kA:Kp (Mer.One s) w8 wA:=by
    rw [hwA];exact (((Kp.of_no Q3t.out).setCell (p:=⟨s,8+oN*3,none⟩) (.inl (show Mer.One s s from rfl)) _).setCell (p:=⟨s,8+oN*3+1,none⟩) (.inl (show Mer.One s s from rfl)) _).setCell (p:=⟨s,8+oN*3+2,none⟩) (.inl (show Mer.One s s from rfl)) _
   rw [<-hwA] at Bn;rw [<-hwA];clear g0 g1 g2 f0 f1 f2 hwA Q4s d0 d1;have M6:=zz kA;refine ⟨kA,?_⟩;refine Q6 (λnq=>?_);obtain ⟨wB,hwB⟩: ∃W,W=wA.drewN nq:=⟨_,rfl⟩;have I7:Kp No wA wB:=by rw [hwB];exact (Kp.refl No wA).drewN nq
   obtain ⟨Qst,Qwv,Qnv⟩: ∃Qst:J7,Qst={stB with of:=stB.of.set oN ⟨x.r.seq,x.r.v.m,x.r.v.c⟩}/\Xx wB s r y P o Qst (some ⟨g2,Qhm,none⟩) Qc5 Qkk Fx Fy KA:=⟨_,rfl,Bn.Q5 I7⟩;have Qtz:=zz Qwv;have Vj:=zz Qnv;have Hu:=zz (I7.get (kA.get El.out λe=>hps e) λx=>x)
   have HKB:=zz (show Kp (Jj s la lc cs ka kc K) w wB from (Kx.out.trans kA λi hi e=>by
    have e:i=s:=e;rcases Hv.out s (.inl rfl) with h1|h1
    ·exact e▸h1
    ·omega).trans_no I7)
   have Qnm:=zz (show Qa.ok ⟨x.r,ya,yc⟩ wB from Qd.ok.keep (Qd.ok.apart J4a.out kA λg hg cur hcur=>by
    have hg:g=s:=hg;exact Q7 hcur Q76.out.cell (by decide) hg) I7 λ_ _ x=>x)
   rw [<-hwB];clear hwB I7 Qwv Qnv Bn kA Q77 Q3t Q76 El Kx RT hs8 Qr3 hs9 J4a M6;go_wp2_with fail
   have hsB:=Q3 Vj.out.cell;have Qdz:=Q3 Hu.out;have d0: ∀W,Kp No wB W->W.cell? ⟨p,0,none⟩=some (.int .i64 (oN:Int)):=λW hW=>Q0 (hW.get Hu.out λx=>x) 0;have d3: ∀W,Kp No wB W->W.cell? ⟨s,2,none⟩=some (.int .i64 (o:Int)):=λW hW=>Vj.out.at_ hW 2
   have Qvy: ∀kept',Gq o stk x.r={Qst with kept:=kept'}↔kept'=(if x.r.o=(o:Int) then stk.kept++[x.r] else stk.kept):=by
    intro kept'
    have e:Gq o stk x.r={Qst with kept:=if x.r.o=(o:Int) then stk.kept++[x.r] else stk.kept}:=by
     rw [Qtz.out,Ys.out];unfold Gq Jx;rw [HX.out.2.2.2.1];rfl
    rw [e];constructor
    ·intro h;injection h with _ _ _ _ _ _ _ h;exact h.symm
    ·intro h;rw [h]
   have hkept:Qst.kept=stk.kept:=by rw [Qtz.out,Ys.out]
   have Qjv:=zz (And.intro Qvy hkept);clear Qvy hkept;by_cases Hg:oN=o
   ·have e1:((oN:Int)==(o:Int))=true:=by rw [beq_iff_eq,Hg]
    have e1':(oN==o)=true:=by rw [beq_iff_eq,Hg]
    have Qei:=zz Hg;clear Hg;refine zD No [0,0,0,0,0,0,0] [0,1,2,3,4,5,6] ?_;repeat (first|refine zA ?_|refine zB ?_|refine zC ?_)
    refine Q6 (λnq=>?_);obtain ⟨wD,hwD⟩: ∃W,W=wB.drewN nq:=⟨_,rfl⟩;have Qx2:Kp No wB wD:=by rw [hwD];exact (Kp.refl No wB).drewN nq
    have Q0r:=zz (Vj.out.Q5 Qx2);have Qnf:=zz (Qx2.get Hu.out λx=>x);have Lq:=zz (HKB.out.trans_no Qx2);have HZD:=zz (show Qa.ok ⟨x.r,ya,yc⟩ wD from Qd.ok.keep Qnm.out Qx2 λ_ _ x=>x);rw [<-hwD];clear hwD Qx2 d0 d3 Vj Hu HKB Qnm hsB Qdz;have J1f:=Qee.out;have HQ:=zz (show ∀g,(Value.slice Fx KA.length Fy).ownBlock=some g->g≠p/\g≠s from λg hg=>⟨λe=>Qj9.out (e▸ .inr (.inr (.inr (.inl hg)))),λe=>Q0r.out.Km.2.2 (e▸ .inl hg)⟩)
    have q1: ∀W,Kp (λg=>(Value.slice Fx KA.length Fy).ownBlock=some g) wD W->W.cell? ⟨s,23,none⟩=some (.slice Fx KA.length Fy):=λW hW=>by
     rw [Q0 (hW.get Q0r.out.cell λhs=>(HQ.out s hs).2 rfl)];rfl
    have R5:=zz (show ∀W,Kp (λg=>(Value.slice Fx KA.length Fy).ownBlock=some g) wD W->W.rangeAt p 0 [.int .i64 (oN:Int), .int .i64 x.r.seq, .string x.r.key, .int .i64 x.r.v.m, .int .i64 x.r.v.c, .int .i64 x.r.v.o, .slice ya x.r.v.val.length yc, .bool x.r.v.gone, .int .i64 x.r.v.ttl] from λW hW=>by
     have:=Qb (hW.get Qnf.out λhs=>(HQ.out p hs).1 rfl) 0 9;exact this)
    clear J1f;go_upto_region 11 with fail
    refine J4 (Kp (λg=>(Value.slice Fx KA.length Fy).ownBlock=some g) wD) [0,0,0,0,0,0,2,2,0,0,2] [0,1,2,3,4,5,6,7,8,9] 10 (by kernel_rfl) (by kernel_rfl) (λ_ n h=>h.drewN n) zK ?_;repeat (first|refine zA ?_|refine zB ?_|refine zC ?_)
    refine Q8 rfl rfl rfl (v:= .agg #[.int .i64 (oN:Int), .int .i64 x.r.seq, .string x.r.key, .int .i64 x.r.v.m, .int .i64 x.r.v.c, .int .i64 x.r.v.o, .slice ya x.r.v.val.length yc, .bool x.r.v.gone, .int .i64 x.r.v.ttl]) (λW0 hW=>Q9 46 _ rfl p 0 rfl _ _ (R5.out W0 hW) Tryz.underlying46 rfl (by kernel_rfl)) (by go_simp;rfl) ?_;refine Q4 rfl rfl (λn1=>?_);go_wp2_with fail
    obtain ⟨W8,Q3n⟩: ∃W,W=(wD.drewN n1).alloc (.cells #[.int .i64 (oN:Int), .int .i64 x.r.seq, .string x.r.key, .int .i64 x.r.v.m, .int .i64 x.r.v.c, .int .i64 x.r.v.o, .slice ya x.r.v.val.length yc, .bool x.r.v.gone, .int .i64 x.r.v.ttl] 46):=⟨_,rfl⟩;have k8:Kp No wD W8:=by rw [Q3n];exact (zK.drewN _).alloc _
    have b8:W8.heap[wD.heap.size]?=some (.cells #[.int .i64 (oN:Int), .int .i64 x.r.seq, .string x.r.key, .int .i64 x.r.v.m, .int .i64 x.r.v.c, .int .i64 x.r.v.o, .slice ya x.r.v.val.length yc, .bool x.r.v.gone, .int .i64 x.r.v.ttl] 46 (0,0)):=by rw [Q3n];exact heap_alloc_new (wD.drewN n1) _
    rw [<-Q3n];clear Q3n;refine ⟨Kp.of_no k8,?_⟩;refine Q4 rfl rfl (λn2=>?_);have hxo:(⟨x.r,ya,yc⟩:Qa).r.o=(oN:Int):=HX.out.2.2.2.1;have J87:KA.length<=1000000:=by have:=Q9i.out.2.1;omega
    obtain ⟨a9,c9,W9,hrun,Qo7,hk9,Ml⟩:=Ey (T:=26) (E:=46) (sz:=9) (bytes:=96) Tryz.underlying26 C8 (V:=W8.drewN n2) (Q0r.out.kept.own.keep (k8.drewN n2) λ_ _ x=>x) (news:=recC ⟨x.r,ya,yc⟩) (Mv _) rfl (g:=wD.heap.size) b8 (by unfold recC Qa.sl;rw [hxo]) (by omega) (by omega);have Q0e:=zz hrun;have k9:Kp (λg=>(Value.slice Fx KA.length Fy).ownBlock=some g) wD W9:=(Kp.of_no (k8.drewN n2)).trans_same hk9;have Qjh:wD.heap.size<=(W8.drewN n2).heap.size:=(k8.drewN n2).size;clear hrun hk9;refine wpList_append_run rfl rfl rfl rfl Q0e.out ?_;refine wpList_nil ?_;refine ⟨rfl,k9,?_⟩;clear Q0e q1;repeat (first|refine zA ?_|refine zB ?_|refine zC ?_)
    refine Yc (λn4=>?_);refine Q4 rfl rfl (λn5=>?_);obtain ⟨Wa,hWa⟩: ∃W,W=(W9.drewN n4).drewN n5:=⟨_,rfl⟩;have Qo8:=Qo7.keep (show Kp No W9 Wa by rw [hWa];exact ((Kp.refl No W9).drewN n4).drewN n5) λ_ _ x=>x;have Qaf:Kp (λg=>(Value.slice Fx KA.length Fy).ownBlock=some g) wD Wa:=by rw [hWa];exact (k9.drewN n4).drewN n5
    have hba:(Value.slice a9 (KA.length+1) c9).ownBlock=(Value.slice Fx KA.length Fy).ownBlock\/ ∃g,(Value.slice a9 (KA.length+1) c9).ownBlock=some g/\wD.heap.size<=g:=Ml.imp id λ⟨g,e,hg⟩=>⟨g,e,Nat.le_trans Qjh hg⟩;have hcE:=Q0r.out.Mp (z:=⟨x.r,ya,yc⟩) Qaf Qo8 hba HZD.out;have bs:=Qaf.get Q0r.out.cell λhs=>(HQ.out s hs).2 rfl;have hsa:=Q3 bs;have f23:=Qc bs 23;have g23:Wa.cell? ⟨s,23,none⟩=some (.slice Fx KA.length Fy):=by rw [Q0 bs];rfl
    have Q3k:=zz (show Kp (Jj s la lc cs ka kc K) w (Wa.setCell ⟨s,23,none⟩ (.slice a9 (KA.length+1) c9)) from (Lq.out.trans Qaf λi hi hS=>by
     rcases Hv.out i (.inr (.inr (.inr (.inl hS)))) with h1|h1
     ·exact h1
     ·omega).setCell (p:=⟨s,23,none⟩) (Hv.out s (.inl rfl)) _)
    have Q0b:=zz hcE
    have Qne:=zz (show ∀g,(Value.slice a9 (KA.length+1) c9).ownBlock=some g->(Value.slice Fx KA.length Fy).ownBlock=some g\/w.heap.size<=g from λg hg=>by
     rcases hba with h1|⟨g',h1,h2⟩
     ·exact .inl (h1▸hg)
     ·rw [hg] at h1;injection h1 with h1;have:=Lq.out.size;exact .inr (by omega))
    rw [<-hWa];clear hWa Qo8 Qaf k9 k8 b8 Qo7 Ml Qjh hba hcE bs hxo R5 Lq Q0r Qnf HZD J87;go_wp2_with fail
    intro nr;obtain ⟨wE,hwE⟩: ∃W,W=(Wa.setCell ⟨s,23,none⟩ (.slice a9 (KA.length+1) c9)).drewN nr:=⟨_,rfl⟩;have hEE:Kp No (Wa.setCell ⟨s,23,none⟩ (.slice a9 (KA.length+1) c9)) wE:=by rw [hwE];exact (Kp.refl No _).drewN nr
    have Qeb:=zz (show Qb6 w s r y P o st la lc cs ka kc K (L.map Qa.r) B (k+1) wE from by
     refine ⟨some ⟨g2,Qhm,none⟩,Qc5,Qkk,a9,c9,KA++[(⟨x.r,ya,yc⟩:Qa)],?_,λg hg=>?_,Q3k.out.trans_no hEE,Qee.out.1,by rw [List.length_append,List.length_singleton];have:=Q9i.out.2.1;omega,Qee.out.2⟩
     ·rw [HX.out.2.2.2.2.1,Nl,<-HX.out.2.2.2.2.2,(Qjv.out.1 _).2 rfl,if_pos (by rw [HX.out.2.2.2.1,Qei.out])];have:=Q0b.out.Q5 hEE;rw [Qjv.out.2] at this;exact this
     ·rcases hg with hg|hg|hg|hg|⟨z,hz,hg⟩
      ·exact Hv.out g (.inl hg)
      ·exact Hv.out g (.inr (.inl hg))
      ·exact Hv.out g (.inr (.inr (.inl hg)))
      ·rw [List.length_append,List.length_singleton] at hg;rcases Qne.out g hg with h1|h1
       ·exact Hv.out g (.inr (.inr (.inr (.inl h1))))
       ·exact .inr h1
      ·rcases List.mem_append.1 hz with hz|hz
       ·exact Hv.out g (.inr (.inr (.inr (.inr ⟨z,hz,hg⟩))))
       ·rw [List.mem_singleton] at hz;rw [hz] at hg;exact .inr (Q0c.out.2 g hg))
    rw [<-hwE];clear hwE hEE f23 g23 hsa Q3k Q0b Qne;go_wp2_with fail
    go_roundw
    case rel=>exact ⟨k+1,hlt,by go_num,Qeb⟩
    case measure=>simp [intOf];omega
   ·have e1:((oN:Int)==(o:Int))=false:=by rw [beq_eq_false_iff_ne];exact λe=>Hg (by omega)
    have e1':(oN==o)=false:=by rw [beq_eq_false_iff_ne];exact Hg
    have Qei:=zz Hg;clear Hg;refine zD No [0,0,0,0,0,0,0] [0,1,2,3,4,5,6] ?_;repeat (first|refine zA ?_|refine zB ?_|refine zC ?_)
    refine Q6 (λnq=>?_);obtain ⟨wE,hwE⟩: ∃W,W=wB.drewN nq:=⟨_,rfl⟩;have hEE:Kp No wB wE:=by rw [hwE];exact (Kp.refl No wB).drewN nq
    have Qeb:=zz (show Qb6 w s r y P o st la lc cs ka kc K (L.map Qa.r) B (k+1) wE from by
     refine ⟨some ⟨g2,Qhm,none⟩,Qc5,Qkk,Fx,Fy,KA,?_,Hv.out,HKB.out.trans_no hEE,Qee.out.1,by have:=Q9i.out.2.1;omega,Qee.out.2⟩;rw [HX.out.2.2.2.2.1,Nl,<-HX.out.2.2.2.2.2,(Qjv.out.1 _).2 rfl,if_neg (by rw [HX.out.2.2.2.1];intro e;exact Qei.out (by omega))];have:=Vj.out.Q5 hEE;rw [<-Qjv.out.2];exact this)
    rw [<-hwE];clear hwE hEE d0 d3 Vj Hu HKB Qnm hsB Qdz;go_wp2_with fail
    go_roundw
    case rel=>exact ⟨k+1,hlt,by go_num,Qeb⟩
    case measure=>simp [intOf];omega
  ·obtain rfl:n=k:=by omega
   clear hge;go_wp2_with fail
   refine bodyPost_end (results_none rfl _ _ _) rfl ⟨rfl,HJ.out⟩
end Go.Proofs.YtgnkmjeoaoongaaGreatDoor
