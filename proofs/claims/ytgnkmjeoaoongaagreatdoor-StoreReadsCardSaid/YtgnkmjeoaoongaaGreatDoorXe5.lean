/-
  SHold, SReadsP, SXWrites, STrimS, SKeys, SXAt, SXGet.
-/
import Derived.Test.YtgnkmjeoaoongaaGreatDoorXd9
set_option maxRecDepth 100000
set_option maxHeartbeats 4000000
namespace Go.Proofs.YtgnkmjeoaoongaaGreatDoor
open Go.RowKit Go.Mer
structure Mb (k:Nat) (P:ByteArray) (ds:Qu) (st:J7) (lg:J2):Prop where
 fit:Fit k (Zp P st.Xu) ds lg
 whole:st.dead=false->lg.dead=false/\Whole (Zp P st.Xu) ds lg
 n:st.n<=5000+k
theorem Mb.mono {k k':Nat} {P:ByteArray} {ds:Qu} {st:J7} {lg:J2} (h:Mb k P ds st lg) (hk:k<=k'):Mb k' P ds st lg:=⟨h.fit.mono hk,h.whole,by have:=h.n;omega⟩
theorem Qbd {P:ByteArray} {s:Qu} {st:J2} {p:List UInt8} (h:(Y8 P s st p).1.2=0):st.dead=false/\(Y8 P s st p).2.2.dead=false:=by
 unfold Y8 at h⊢;split at h
 ·cases h
 ·next hd=>
  have hd:st.dead=false:=by simpa using hd
  refine ⟨hd,?_⟩;split at h
  ·cases h
  ·next hl=>
   rw [if_neg (by rw [hd];decide),if_neg hl];split at h
   ·next h1=>
    rw [if_pos h1];simp only at h⊢
    split at h
    ·next h2=>rw [if_pos h2];simp only [Vk];exact (Q5v P s st).2.2.trans hd
    ·next h2=>exact absurd h h2
   ·next h1=>exact absurd h h1
theorem Qcr {P:ByteArray} {s:Qu} {st:J2} (h:(Uq P s st).1=0):(Uq P s st).2.2.dead=false:=by
 unfold Uq at h⊢;split at h
 ·cases h
 ·next hd=>
  rw [if_neg hd];simp only at h⊢
  rw [h];rfl
theorem Q6l {k:Nat} {P:ByteArray} {s:Qu} {lg:J2} (h:Fit k P s lg) (hk:k<=100000) (p:List UInt8):Fit (k+1) P (Jw P s lg p).2.1 (Jw P s lg p).2.2:=by
 have h1:=Q29 h hk p;unfold Jw;split
 ·exact Qkq h1
 ·exact h1
theorem Q3c {k:Nat} {P:ByteArray} {s:Qu} {lg:J2} (h:Fit k P s lg) (hw:Whole P s lg) (hk:k<=100000) (p:List UInt8) (h0:(Jw P s lg p).1=0):(Jw P s lg p).2.2.dead=false/\Whole P (Jw P s lg p).2.1 (Jw P s lg p).2.2:=by
 unfold Jw at h0⊢;split at h0
 ·next ha=>
  rw [if_pos ha];obtain ⟨a1,a2⟩:=Qbd ha;exact ⟨Qcr h0,Qdf (Qde hw h hk p a1 a2)⟩
 ·next ha=>exact absurd h0 ha
theorem Qgr {k:Nat} {P:ByteArray} {ds:Qu} {st:J7} {lg:J2} (h:Mb k P ds st lg) (hk:k<=100000) (o:Nat) (l:List Qx):Mb (k+1) P (Jd P o ds st lg l).2.1 (Jd P o ds st lg l).2.2.1 (Jd P o ds st lg l).2.2.2:=by
 unfold Jd;split
 ·exact h.mono (Nat.le_succ _)
 ·next hd=>
  have hd:st.dead=false:=by simpa using hd
  split
  ·exact h.mono (Nat.le_succ _)
  ·split
   ·simp only
    have h1:=Q6l h.fit hk (Qrp l);have hn:=h.n;split
    ·next h0=>
     have e:(Jf o st l).Xu=st.Xu:=by
      have: ∀(L:List Qx) (st:J7),(Jf o st L).Xu=st.Xu:=by
       intro L;induction L with
       |nil=>intro _;rfl
       |cons r L ih=>intro st;exact ih (Gq o st r)
      exact this l st
     refine ⟨?_,λ_=>?_,?_⟩
     ·show Fit (k+1) (Zp P (Jf o st l).Xu) _ _
      rw [e];exact h1
     ·show _/\Whole (Zp P (Jf o st l).Xu) _ _
      rw [e];exact Q3c h.fit (h.whole hd).2 hk (Qrp l) h0
     ·show st.n+1<=5000+(k+1)
      omega
    ·exact ⟨h1,λhh=>(by cases hh),by show st.n<=_;omega⟩
   ·exact h.mono (Nat.le_succ _)
def Uw:List Qf->List Qf->Prop
 |_,[]=>True
 |c,v::l=>Zx v=true/\Yu c v=false/\Uw (Yd c v) l
theorem Qm5 {o:Nat}: ∀(l:List Qx) {st:J7},Inv o st->(∀r∈l,Jv r=true)->X5 st.mm st.mc st.of l=true-> ∀k,Uw (Qi st.keys k) ((l.filter λr=>decide (r.key=k)).map (·.v)):=by
 intro l;induction l with
 |nil=>intro st _ _ _ k;exact trivial
 |cons r l ih=>
  intro st h hr hm k;rw [X5,Bool.and_eq_true] at hm;have hr0:=hr r (List.mem_cons_self ..);have h1:=ih (st:=Gq o st r) (Qab h hr0 hm.1) (λx hx=>hr x (List.mem_cons_of_mem _ hx)) hm.2 k;rw [Q0z h.sorted] at h1;by_cases hk:r.key=k
  ·rw [if_pos hk] at h1;rw [List.filter_cons_of_pos (by simpa using hk)];subst hk;exact ⟨(Yw.1 hr0).1,Ca h hr0 hm.1,h1⟩
  ·rw [if_neg hk] at h1;rw [List.filter_cons_of_neg (by simpa using hk)];exact h1
theorem Ho: ∀(l c:List Qf),Li c->Uw c l->Li (l.foldl Yd c)
 |[],_,hc,_=>hc
 |v::l,c,hc,h=>Ho l (Yd c v) (On hc h.2.1) h.2.2
theorem Qal: ∀(l c:List Qf),(∀v∈c,Zx v=true)->Uw c l-> ∀v∈l.foldl Yd c,Zx v=true
 |[],_,hc,_=>hc
 |v::l,c,hc,h=>Qal l (Yd c v) (λx hx=>by
  rcases Q5w.1 hx with rfl|hx
  ·exact h.1
  ·exact hc x hx) h.2.2
theorem Oo: ∀(l c:List Qf),(l.foldl Yd c).length=c.length+l.length
 |[],_=>rfl
 |v::l,c=>by
  have:=Oo l (Yd c v);rw [Va] at this;rw [List.foldl_cons,this,List.length_cons];omega
theorem Uw.at_: ∀{l c:List Qf} {i:Nat} (_:Uw c l) (hi:i<l.length),Zx l[i]=true/\Yu ((l.take i).foldl Yd c) l[i]=false
 |_::_,_,0,h,_=>⟨h.1,h.2.1⟩
 |_::l,_,i+1,h,hi=>Uw.at_ (l:=l) (i:=i) h.2.2 (Nat.lt_of_succ_lt_succ hi)
theorem Qii {P:ByteArray} {s:Qu} {st:J7} {lg:J2} (hs:Je st.keys) (m c t1 t2:Int) (k:ByteArray) (h:Z6 t1 t2 (J9 P s st lg m c).2.2.1.mm (J9 P s st lg m c).2.2.1.mc=false):
  U1 (Qi (J9 P s st lg m c).2.2.1.keys k) t1 t2=U1 (Qi st.keys k) t1 t2:=by
 revert h
 unfold J9;split
 ·intro _;rfl
 ·split
  ·intro _;rfl
  ·split
   ·simp only
    split
    ·intro h;have h:Z6 t1 t2 m c=false:=h;show U1 (Qi (Fi st.keys m c) k) t1 t2=_
     rw [Q7q hs,Qfv h]
    ·intro _;rfl
   ·intro _;rfl
theorem Qij {P:ByteArray} {o:Nat} {s:Qu} {st:J7} {lg:J2} (h:Inv o st) (m c:Int):Inv o (J9 P s st lg m c).2.2.1:=by
 unfold J9;split
 ·exact h
 ·split
  ·exact h
  ·next hm=>
   have hm:Jp m c=true:=by simpa using hm
   split
   ·simp only
    split
    ·exact C9 (Qbz h hm) st.Xu (st.n+1) st.dead
    ·exact C9 h st.Xu st.n true
   ·exact h
theorem Qm3 {P:ByteArray} {o:Nat} {s:Qu} {st:J7} {lg:J2} (h:Inv o st) (l:List Qx):Inv o (Jd P o s st lg l).2.2.1:=by
 unfold Jd;split
 ·exact h
 ·split
  ·exact h
  ·split
   ·next hm=>
    simp only
    split
    ·have h1:=Qac h hm;exact C9 h1 (Jf o st l).Xu (st.n+1) (Jf o st l).dead
    ·exact C9 h st.Xu st.n true
   ·exact h
theorem Q6i {P:ByteArray} {s:Qu} {st:J7} {lg:J2} (m c:Int):(J9 P s st lg m c).2.2.1.Xu=st.Xu:=by
 unfold J9;split
 ·rfl
 ·split
  ·rfl
  ·split
   ·simp only
    split<;>rfl
   ·rfl
theorem Q59 (o:Nat): ∀(L:List Qx) (st:J7),(Jf o st L).Xu=st.Xu
 |[],_=>rfl
 |r::L,st=>Q59 o L (Gq o st r)
theorem Q35 {P:ByteArray} {o:Nat} {s:Qu} {st:J7} {lg:J2} (l:List Qx):(Jd P o s st lg l).2.2.1.Xu=st.Xu:=by
 unfold Jd;split
 ·rfl
 ·split
  ·rfl
  ·split
   ·simp only
    split
    ·exact Q59 o l st
    ·rfl
   ·rfl
def Qui (w:World) (s r y:Nat) (P Q:ByteArray) (o:Nat) (st:J7) (la:Option Addr) (lc:Nat) (cs:Z7) (ka:Option Addr) (kc:Nat) (K:List Qa) (F G:Nat->Prop) (q:Int×Qu×J2) (w':World):Prop:=
 ∃F' G',Xx w' s r y P o (Ir st q.1) la lc cs ka kc K/\N9 w' r y Q q.2.1 q.2.2 F' G'/\Qv F F' w/\Qv G G' w/\Kp (λk=>k=s\/F k\/G k) w w'
section
variable {w:World} {s r y o:Nat} {P Q:ByteArray} {st:J7} {la:Option Addr} {lc:Nat} {cs:Z7} {ka:Option Addr} {kc:Nat} {K:List Qa} {ds:Qu} {lg:J2} {F G:Nat->Prop} {k:Nat}
theorem Xx.Q39 (h:Xx w s r y P o st la lc cs ka kc K) (n:Nat):Xx (w.setCell ⟨s,24,none⟩ (.int .i64 (n:Int))) s r y P o {st with n:=n} la lc cs ka kc K:=
 h.turn ((Kp.refl (Mer.One s) w).setCell (p:=⟨s,24,none⟩) (.inl (show Mer.One s s from rfl)) _) (by have:=Qh h.cell 24 (.int .i64 (n:Int));simpa [Vu] using this) rfl rfl
theorem Xx.L3 (h:Xx w s r y P o st la lc cs ka kc K) (b:Bool):Xx (w.setCell ⟨s,25,none⟩ (.bool b)) s r y P o {st with dead:=b} la lc cs ka kc K:=
 h.turn ((Kp.refl (Mer.One s) w).setCell (p:=⟨s,25,none⟩) (.inl (show Mer.One s s from rfl)) _) (by have:=Qh h.cell 25 (.bool b);simpa [Vu] using this) rfl rfl
theorem N5 (h:Xx w s r y P o st la lc cs ka kc K) (hW:N9 w r y Q ds lg F G) (Qe0: ∀i,Jj s la lc cs ka kc K i-> ¬F i) (Qlf: ∀i,Jj s la lc cs ka kc K i-> ¬G i) (hfit:Fit k Q ds lg) (hwh:Whole Q ds lg) (hk:k<=3000) (hQ:Q.size<=50) (hnb:st.n<=1000000)
  (pa:Option Addr) (pc:Nat) (p:List UInt8) (hp: ∀W,Kp (Xp F G) w W->Rd W W.heap.size pa (u8s p)) (hpl:p.length<=1000000000):
  Calls Tryz.prog 68 #[.pointer (some ⟨s,0,none⟩), .slice pa p.length pc] w λe w'=>e= .returned (.int .i64 (Jw Q ds lg p).1)/\Qui w s r y P Q o st la lc cs ka kc K F G (Jw Q ds lg p) w':=by
 have hap:=Q6m w r y Q ds lg F G hW hfit.hne hfit.hsl (by have:=hfit.Qn;omega) (λz hz=>by have:=hfit.no z hz;have:=hfit.Qn;omega) (by have:=hfit.Qk;omega) hQ hwh.tr pa pc p hp hpl;have hfa:=Q29 hfit (by omega) p;have c3:w.cell? ⟨s,3,none⟩=some (.pointer (some ⟨y,0,none⟩)):=h.at_ zK 3;have hsl:=Q3 h.cell;have H:=zz h;have Qb5:=zz (And.intro Qe0 Qlf);have M5:=zz hap;have Qdq:=zz hfa;have hw5:=zz (E2 st.n hnb);obtain ⟨pn,hpn⟩: ∃pn,pn=p.length:=⟨_,rfl⟩;rw [<-hpn] at M5⊢;obtain ⟨q,hq⟩: ∃q,q=Y8 Q ds lg p:=⟨_,rfl⟩;rw [<-hq] at M5 Qdq;unfold Qax at M5;have hS: ∀i,Jj s la lc cs ka kc K i-> ¬Xp F G i:=λi hi hb=>hb.elim (Qe0 i hi) (Qlf i hi);have HS:=zz hS;by_cases hc:q.1.2=0
 ·have hwr:=Q01 (hq▸hc);rw [<-hq] at hwr;rw [hc] at M5;have Ff:=zz hwr;clear h hW Qe0 Qlf hfit hwh hp hap hfa hpn hq hS hpl hnb hc hwr;go_enter Tryz.func68,Tryz.ntmps68
  go_wp2_with fail
  refine M5.out.mono ?_;rintro e w2 ⟨rfl,F2,G2,hW2,hF2,hG2,k2⟩;have h2:=H.out.keep k2 HS.out;have c3:w2.cell? ⟨s,3,none⟩=some (.pointer (some ⟨y,0,none⟩)):=h2.at_ zK 3;have hsl2:=Q3 h2.cell;have hsy:=Q1v w2 r y Q q.2.1 q.2.2 F2 G2 hW2 Qdq.out.hne Qdq.out.hsl (by have:=Qdq.out.Qn;omega) (λz hz=>by have:=Qdq.out.no z hz;have:=Qdq.out.Qn;omega) hQ;unfold Q7k at hsy;rw [<-Ff.out] at hsy
  have Qgz: ∀i,Jj s la lc cs ka kc K i-> ¬F2 i:=λi hi hf=>by
   rcases hF2 i hf with h1|h1
   ·exact Qb5.out.1 i hi h1
   ·have:=H.out.lt i hi;omega
  have Qh0: ∀i,Jj s la lc cs ka kc K i-> ¬G2 i:=λi hi hf=>by
   rcases hG2 i hf with h1|h1
   ·exact Qb5.out.2 i hi h1
   ·have:=H.out.lt i hi;omega
  obtain ⟨t,ht⟩: ∃t,t=Jw Q ds lg p:=⟨_,rfl⟩;rw [<-ht] at hsy;have Q3w:=zz hsy;have H2:=zz h2;have HF2:=zz (And.intro hF2 (And.intro hG2 k2));have HS2:=zz (show ∀i,Jj s la lc cs ka kc K i-> ¬Xp F2 G2 i from λi hi hb=>hb.elim (Qgz i hi) (Qh0 i hi));have HR:=zz ht;clear hW2 hF2 hG2 k2 h2 hsy Qgz Qh0 ht;go_wp2_with fail
  refine Q3w.out.mono ?_;rintro e w3 ⟨rfl,F3,G3,hW3,hF3,hG3,k3⟩;have h3:=H2.out.keep k3 HS2.out;have Qr9:=Q3 h3.cell;have f24:=Qc h3.cell 24;have f25:=Qc h3.cell 25;have c24:w3.cell? ⟨s,24,none⟩=some (.int .i64 (st.n:Int)):=h3.at_ zK 24;have c25:w3.cell? ⟨s,25,none⟩=some (.bool st.dead):=h3.at_ zK 25;have hF:Qv F F3 w:=HF2.out.1.trans hF3 HF2.out.2.2.size;have hG:Qv G G3 w:=HF2.out.2.1.trans hG3 HF2.out.2.2.size
  have Qge:Kp (λi=>i=s\/F i\/G i) w w3:=(HF2.out.2.2.mono λi _ hb=> .inr hb).trans k3 λi hi hb=>by
   rcases hb with hb|hb
   ·rcases HF2.out.1 i hb with h1|h1
    ·exact .inr (.inl h1)
    ·omega
   ·rcases HF2.out.2.1 i hb with h1|h1
    ·exact .inr (.inr h1)
    ·omega
  have Bm: ∀i,F3 i\/G3 i->i≠s:=λi hi e=>by
   have J1z:=Q3 H.out.cell;rcases hi with hi|hi
   ·rcases hF i hi with h1|h1
    ·exact Qb5.out.1 s (.inl rfl) (e▸h1)
    ·omega
   ·rcases hG i hi with h1|h1
    ·exact Qb5.out.2 s (.inl rfl) (e▸h1)
    ·omega
  have H3:=zz h3;have HX:=zz (And.intro hW3 (And.intro hF (And.intro hG (And.intro Qge Bm))));clear hW3 hF3 hG3 k3 h3 hF hG Qge Bm Q3w c3;by_cases hrc:t.1=0
  ·have e1:(t.1==0)=true:=by rw [beq_iff_eq];exact hrc
   have J8u:=hw5.out;have Qb3:=zz hrc;clear hrc;rw [Qb3.out];go_wp2_with fail
   go_ret
   refine ⟨by rw [<-HR.out,Qb3.out];rfl,F3,G3,?_,?_,HX.out.2.1,HX.out.2.2.1,?_⟩
   ·rw [<-HR.out,Gv st Qb3.out];exact H3.out.Q39 (st.n+1)
   ·rw [<-HR.out]
    exact
     ⟨Di.keep HX.out.1.disk ((Kp.refl (Mer.One s) w3).setCell (p:=⟨s,24,none⟩) (.inl (show Mer.One s s from rfl)) _) λi hi e=>HX.out.2.2.2.2 i (.inl hi) e,Yl.keep HX.out.1.log ((Kp.refl (Mer.One s) w3).setCell (p:=⟨s,24,none⟩) (.inl (show Mer.One s s from rfl)) _) λi hi e=>HX.out.2.2.2.2 i (.inr hi) e,HX.out.1.sep⟩
   ·exact HX.out.2.2.2.1.setCell (p:=⟨s,24,none⟩) (.inl (.inl rfl)) _
  ·have e1:(t.1==0)=false:=by rw [beq_eq_false_iff_ne];exact hrc
   have e2:(t.1 !=0)=true:=by rw [bne,e1];rfl
   have Qb3:=zz hrc;clear hrc;go_wp2_with fail
   go_ret
   refine ⟨by rw [<-HR.out];rfl,F3,G3,?_,?_,HX.out.2.1,HX.out.2.2.1,?_⟩
   ·rw [<-HR.out,Us st Qb3.out];exact H3.out.L3 true
   ·rw [<-HR.out]
    exact
     ⟨Di.keep HX.out.1.disk ((Kp.refl (Mer.One s) w3).setCell (p:=⟨s,25,none⟩) (.inl (show Mer.One s s from rfl)) _) λi hi e=>HX.out.2.2.2.2 i (.inl hi) e,Yl.keep HX.out.1.log ((Kp.refl (Mer.One s) w3).setCell (p:=⟨s,25,none⟩) (.inl (show Mer.One s s from rfl)) _) λi hi e=>HX.out.2.2.2.2 i (.inr hi) e,HX.out.1.sep⟩
   ·exact HX.out.2.2.2.1.setCell (p:=⟨s,25,none⟩) (.inl (.inl rfl)) _
 ·have hwr:=Q00 (hq▸hc);rw [<-hq] at hwr;have Ff:=zz hwr;obtain ⟨z,hz⟩: ∃z,z=q.1.2:=⟨_,rfl⟩;rw [<-hz] at hc M5;have HZ:=zz (And.intro hz hc);have e1:(z==0)=false:=by rw [beq_eq_false_iff_ne];exact hc
  have e2:(z !=0)=true:=by rw [bne,e1];rfl
  clear h hW Qe0 Qlf hfit hwh hp hap hfa hpn hq hS hpl hnb hc hwr hz;go_enter Tryz.func68,Tryz.ntmps68
  go_wp2_with fail
  refine M5.out.mono ?_;rintro e w3 ⟨rfl,F3,G3,hW3,hF3,hG3,k3⟩;have h3:=H.out.keep k3 HS.out;have Qr9:=Q3 h3.cell;have f25:=Qc h3.cell 25;have c25:w3.cell? ⟨s,25,none⟩=some (.bool st.dead):=h3.at_ zK 25
  have Bm: ∀i,F3 i\/G3 i->i≠s:=λi hi e=>by
   have J1z:=Q3 H.out.cell;rcases hi with hi|hi
   ·rcases hF3 i hi with h1|h1
    ·exact Qb5.out.1 s (.inl rfl) (e▸h1)
    ·omega
   ·rcases hG3 i hi with h1|h1
    ·exact Qb5.out.2 s (.inl rfl) (e▸h1)
    ·omega
  have H3:=zz h3;have HX:=zz (And.intro hW3 (And.intro hF3 (And.intro hG3 (And.intro k3 Bm))));clear hW3 hF3 hG3 k3 h3 Bm c3 M5;go_wp2_with fail
  go_ret
  refine ⟨by rw [Ff.out,<-HZ.out.1];rfl,F3,G3,?_,?_,HX.out.2.1,HX.out.2.2.1,?_⟩
  ·rw [Ff.out,<-HZ.out.1,Us st HZ.out.2];exact H3.out.L3 true
  ·rw [Ff.out]
   exact
    ⟨Di.keep HX.out.1.disk ((Kp.refl (Mer.One s) w3).setCell (p:=⟨s,25,none⟩) (.inl (show Mer.One s s from rfl)) _) λi hi e=>HX.out.2.2.2.2 i (.inl hi) e,Yl.keep HX.out.1.log ((Kp.refl (Mer.One s) w3).setCell (p:=⟨s,25,none⟩) (.inl (show Mer.One s s from rfl)) _) λi hi e=>HX.out.2.2.2.2 i (.inr hi) e,HX.out.1.sep⟩
  ·exact (HX.out.2.2.2.1.mono λi _ hb=> .inr hb).setCell (p:=⟨s,25,none⟩) (.inl (.inl rfl)) _
end
section
variable {w w':World} {s d l o m:Nat} {P Q:ByteArray} {st:J7} {cs:Z7} {ka:Option Addr} {kc:Nat} {K:List Qa} {ds:Qu} {lg:J2} {F G:Nat->Prop}
theorem Q0u.trimmed {w9 w':World} {F' G':Nat->Prop} {Q8v:J7} {ds':Qu} {X4:J2} {t1 t2:Int} {B:Nat} (h:Q0u w9 s d l P Q o Q8v m cs ka kc K ds' X4 F' G') (hF:Qv F F' w) (hG:Qv G G' w) (hk:Kp (λi=>X6 s m cs ka kc K i\/F i\/G i) w w9) (hkB:K.length<=B)
  {cs':Z7} (h1:Yt w' s d l P o (Fc Q8v t1 t2) m cs' ka kc K) (h2: ∀g,X6 s m cs' ka kc K g->X6 s m cs ka kc K g\/w9.heap.size<=g) (h3:Kp (X6 s m cs ka kc K) w9 w') (h4: ∀p∈cs',p.2.R.length<=B):
  Dw w s d l P Q o m cs ka kc K F G B (Fc Q8v t1 t2) ds' X4 w':=by
 have Kb:=h.at_.disk.lt;have Ub:=h.at_.log.lt;have hsz:=hk.size;refine ⟨cs',ka,kc,K,F',G',⟨h1,h.at_.Gm h3 (λk hf hs=>h.sF k hs hf) (λk hf hs=>h.sG k hs hf),λi hi hf=>?_,λi hi hf=>?_⟩,λi hi=>(h2 i hi).imp id λh6=>by omega,hF,hG,hk.trans h3 λi hi hs=> .inl hs,h4,hkB⟩
 ·rcases h2 i hi with h6|h6
  ·exact h.sF i h6 hf
  ·have:=Kb i hf;omega
 ·rcases h2 i hi with h6|h6
  ·exact h.sG i h6 hf
  ·have:=Ub i hf;omega
theorem Qco {k:Nat} (h:Q0u w s d l P Q o st m cs ka kc K ds lg F G) (hinv:Inv o st) (Be:Q=Zp P st.Xu) (hfit:Fit k Q ds lg) (hk:k<=3000) (Y4:Pow w) (C3: ¬F 0) (Q08: ¬G 0) (hQ:Q.size<=50) (hnb:st.n<=1000000)
  (t1 t2:Int) (B:Nat) (hB:B<=900000) (hcB: ∀p∈cs,p.2.R.length<=B) (hkB:K.length<=B) (hm:Zy st<=1000000000):
  Calls Tryz.prog 23 #[.pointer (some ⟨s,0,none⟩),Xo t1 t2] w λe w'=>e= .returned (.tuple #[.int .i64 ((J9 P ds st lg t1 t2).1.1:Int), .int .i64 (J9 P ds st lg t1 t2).1.2])/\
   Dw w s d l P Q o m cs ka kc K F G B (J9 P ds st lg t1 t2).2.2.1 (J9 P ds st lg t1 t2).2.1 (J9 P ds st lg t1 t2).2.2.2 w':=by
 obtain ⟨q,hq⟩: ∃q,q=J9 P ds st lg t1 t2:=⟨_,rfl⟩;obtain ⟨w0,hw0⟩: ∃W,W=w.alloc (.cells #[.int .i64 t1, .int .i64 t2] 25):=⟨_,rfl⟩;obtain ⟨tb,htb⟩: ∃b,b=w.heap.size:=⟨_,rfl⟩;have k0:Kp No w w0:=by rw [hw0];exact zK.alloc _
 have b0:w0.heap[tb]?=some (.cells #[.int .i64 t1, .int .i64 t2] 25 (0,0)):=by rw [hw0,htb];exact heap_alloc_new w _
 have hsame: ∀W,Kp No w W->Dw w s d l P Q o m cs ka kc K F G B st ds lg W:=λW hW=>h.same hW hcB hkB;have hal:=Q0v (h.st.Q5 k0);rw [<-hq];unfold J9 at hq;have HB0:=zz (And.intro k0 b0);have HW0:=zz hw0;have Q7e:=zz htb;simp only [Xo];by_cases hd:st.dead=true
 ·rw [if_pos hd] at hq hal;have Ht:=zz hal;have HS:=zz hsame;subst hq;clear h hinv hfit Y4 hal hsame hcB hkB hd Be hw0 htb k0 b0;go_enter Tryz.func23,Tryz.ntmps23
  go_upto_region 1 with fail
  rw [<-Q7e.out,<-HW0.out];go_wp2_with fail
  refine Ht.out.mono ?_;rintro e w1 ⟨rfl,rfl⟩;go_wp2_with fail
  go_ret2
  exact ⟨rfl,HS.out _ HB0.out.1⟩
 rw [if_neg hd] at hq hal;have hst:=Q53 t1 t2 w0;have d0:w0.cell? ⟨tb,0,none⟩=some (.int .i64 t1):=Q0 b0 0;have d1:w0.cell? ⟨tb,1,none⟩=some (.int .i64 t2):=Q0 b0 1;have Qmt:=Q3 b0;cases hi:Jp t1 t2 with
 |false=>
  rw [if_pos hi] at hq;rw [hi] at hst;have Ht:=zz hal;have HS:=zz hsame;have HST:=zz hst;subst hq;clear h hinv hfit Y4 hal hsame hcB hkB hd Be hw0 htb k0 b0 hst hi;go_enter Tryz.func23,Tryz.ntmps23
  go_upto_region 1 with fail
  rw [<-Q7e.out,<-HW0.out];go_wp2_with fail
  refine Ht.out.mono ?_;rintro e w1 ⟨rfl,rfl⟩;go_wp2_with fail
  simp only [Xo] at HST;refine HST.out.mono ?_;rintro e w2 ⟨rfl,k2⟩;have Qz:=zz (HB0.out.1.trans_same k2);clear k2;go_wp2_with fail
  go_ret2
  exact ⟨rfl,HS.out _ Qz.out⟩
 |true=>
  rw [if_neg (by rw [hi];decide)] at hq;rw [hi] at hst;obtain ⟨m1,m2,c1,c2⟩:=Zh.1 hi;obtain ⟨T1,hT1⟩: ∃T:Nat,t1=(T:Int):=⟨t1.toNat,by omega⟩;obtain ⟨T2,hT2⟩: ∃T:Nat,t2=(T:Int):=⟨t2.toNat,by omega⟩;have HST:=zz hst;have Ht:=zz hal;have HCM:=zz (λW=>X7 t1 t2 st.mm st.mc W);obtain ⟨z,hz⟩: ∃z,z=Js t1 t2 st.mm st.mc:=⟨_,rfl⟩;have Bq:=(Xi t1 t2 st.mm st.mc).2.2;rw [<-hz] at Bq HCM;simp only [Xo] at HST HCM;have HH:=zz h;have Ja3:=HB0;clear hst hal hz;by_cases hlt:Z6 st.mm st.mc t1 t2=true
  ·rw [if_pos hlt] at hq;have z1:decide (z<=0)=false:=decide_eq_false (by have:=Bq.2 hlt;omega);obtain ⟨X,hX⟩: ∃X,X=Bu t1 t2:=⟨_,rfl⟩;obtain ⟨wq,hwq⟩: ∃wq,wq=Jw Q ds lg X:=⟨_,rfl⟩
   have hq':q=if wq.1=0 then ((Fb st t1 t2,0),wq.2.1,{Fc st t1 t2 with n:=st.n+1},wq.2.2) else ((0,wq.1),wq.2.1,{st with dead:=true},wq.2.2):=by
    rw [hq,<-Be,hwq,hX]
   have Qg2:X.length<=100:=by
    rw [hX,Bu,Qxh,List.length_append,List.length_append];have a1:=Qm (n:=2) (by decide);have a2:=Qm (n:=t1.toNat) (by omega);have a3:=Qm (n:=t2.toNat) (by omega);omega
   have Qv7:X=[2,T1,T2].flatMap Ql:=by
    rw [hX,Bu,Qxh,hT1,hT2];simp only [List.flatMap_cons,List.flatMap_nil,List.append_nil,Int.toNat_natCast]
   have HP:=zz (And.intro Y4 (And.intro C3 Q08));have HI:=zz hinv;have Qj5:=zz hfit;have Vj:=zz (And.intro hcB (And.intro hkB hm));have Qph:=zz hwq;have HQ:=zz hq';have HX:=zz (And.intro Qg2 Qv7);have HT:=zz (And.intro hT1 (And.intro hT2 (And.intro (show T1<=4611686018427387904 by omega) (show T2<=4611686018427387904 by omega))));have HM:=zz (show t1<=9223372036854775807 by omega);have g8: ∀W,Kp No w0 W->W.cell? ⟨s,8,none⟩=some (.int .i64 st.mm):=λW hW=>HH.out.st.at_ (HB0.out.1.trans_same hW) 8;have g9: ∀W,Kp No w0 W->W.cell? ⟨s,9,none⟩=some (.int .i64 st.mc):=λW hW=>HH.out.st.at_ (HB0.out.1.trans_same hW) 9;have sl0:=k0.lt (Q3 h.st.cell);clear h hinv hfit Y4 C3 Q08 hsame hcB hkB hm hd Be hw0 htb k0 hi hq hq' hX hwq Qg2 Qv7 hT1 hT2 hlt Bq m1 m2 c1 c2;go_enter Tryz.func23,Tryz.ntmps23
   go_upto_region 1 with fail
   rw [<-Q7e.out,<-HW0.out];go_wp2_with fail
   refine Ht.out.mono ?_;rintro e w1 ⟨rfl,rfl⟩;go_wp2_with fail
   refine HST.out.mono ?_;rintro e w2 ⟨rfl,k2⟩;have Qz:=zz k2;have e0: ∀W,Kp No w2 W->W.cell? ⟨tb,0,none⟩=some (.int .i64 t1):=λW hW=>Q0 ((Qz.out.trans_same hW).get HB0.out.2 λx=>x) 0;have e1: ∀W,Kp No w2 W->W.cell? ⟨tb,1,none⟩=some (.int .i64 t2):=λW hW=>Q0 ((Qz.out.trans_same hW).get HB0.out.2 λx=>x) 1;have e8: ∀W,Kp No w2 W->W.cell? ⟨s,8,none⟩=some (.int .i64 st.mm):=λW hW=>g8 W (Qz.out.trans_same hW);have e9: ∀W,Kp No w2 W->W.cell? ⟨s,9,none⟩=some (.int .i64 st.mc):=λW hW=>g9 W (Qz.out.trans_same hW);have Qrv:=Qz.out.lt Qmt;have sl2:=Qz.out.lt sl0;clear k2 HST Ht d0 d1 b0 g8 g9;have RT:=zz (show ∀W,Kp No w2 W->W.rangeAt tb 0 [.int .i64 t1, .int .i64 t2] from λW hW=>by have:=Qb ((Qz.out.trans_same hW).get HB0.out.2 λx=>x) 0 2;exact this);have RM:=zz (show ∀W,Kp No w2 W->W.rangeAt s 8 [.int .i64 st.mm, .int .i64 st.mc] from λW hW=>by have:=Qb ((HH.out.st.Q5 ((HB0.out.1.trans_same Qz.out).trans_same hW)).cell) 8 2;exact this);go_wp2_with fail
   refine zD No [0,0,0,0,0,2,0] [0,1,2,3,4,5,6] ?_;repeat (first|refine zA ?_|refine zB ?_|refine zC ?_)
   refine Q4 rfl rfl (λn1=>?_);go_wp2_with fail
   refine (HCM.out _).mono ?_;rintro e wa ⟨rfl,Gl⟩;have ka:Kp No w2 wa:=Gl.of_drewN;clear Gl;go_wp2_with fail
   (try refine ⟨ka,?_⟩)
   repeat (first|refine zA ?_|refine zB ?_|refine zC ?_)
   refine Q6 (λnq=>?_);obtain ⟨w3,hw3⟩: ∃W,W=wa.drewN nq:=⟨_,rfl⟩;have k3:Kp No w0 w3:=by rw [hw3];exact (Qz.out.trans_same ka).drewN nq
   have Zj:=zz (HB0.out.1.trans_same k3);have Qz4:=zz k3;have b3:=k3.get HB0.out.2 λx=>x;rw [<-hw3];have Qa3:=Ny.start (Kp.refl No w3);obtain ⟨w4,hw4⟩: ∃W,W=w3.alloc (.cells #[.slice none 0 0] 121):=⟨_,rfl⟩;have k4:Kp No w3 w4:=by rw [hw4];exact (Kp.refl No w3).alloc _
   rw [<-hw4] at Qa3;obtain ⟨w5,hw5⟩: ∃W,W=w4.alloc (.cells #[.int .i64 2, .int .i64 t1, .int .i64 t2] 3):=⟨_,rfl⟩;have Qlo:Kp No w4 w5:=by rw [hw5];exact (Kp.refl No w4).alloc _
   have hnu:=Uh w3 w5 w3.heap.size _ _ (Qa3.keep Qlo) w4.heap.size 3 [2,T1,T2] 3 (by
    intro n hn;simp only [List.mem_cons,List.not_mem_nil,or_false] at hn;obtain ⟨_,_,h1,h2⟩:=HT.out;rcases hn with rfl|rfl|rfl<;>omega) (by
    rw [hw5,heap_alloc_new w4 _,HT.out.1,HT.out.2.1];rfl) (by decide) (by decide) (by simp) (by simp)
   have f0:w4.cell? ⟨tb,0,none⟩=some (.int .i64 t1):=Q0 (k4.get b3 λx=>x) 0;have f1:w4.cell? ⟨tb,1,none⟩=some (.int .i64 t2):=Q0 (k4.get b3 λx=>x) 1;have J9v:=k4.lt (k3.lt Qmt);have Dt:=zz hnu;have Qk4:=zz hw4;have Q0d:=zz hw5;clear ka hw3 k3 b3 Qa3 hw4 k4 Qlo hw5 hnu e0 e1 e8 e9 Qrv sl2 RT RM HCM Qmt sl0;go_upto_region 9 with fail
   rw [<-Qk4.out];go_wp2_with fail
   rw [<-Q0d.out];refine Dt.out.mono ?_;rintro e w6 ⟨rfl,v6,Q4j,_⟩;rw [List.nil_append,<-HX.out.2] at Q4j;obtain ⟨_,a6,c6,rfl,_⟩:=id Q4j.own;have J1e:=HX.out.1;have hou:=Oy w6 w3.heap.size a6 c6 X Q4j.cell (Own.rd' Q4j.own) (by omega);have Gb:=zz (Zj.out.trans_same Q4j.kp);have Qz6:=zz (Qz4.out.trans_same Q4j.kp);have Q3u:=zz hou;clear Q4j hou Dt Qk4 Q0d f0 f1 J9v;go_wp2_with fail
   refine Q3u.out.mono ?_;rintro e w8 ⟨a8,c8,rfl,Hh,Q4o,k8⟩;have Qc1:=Gb.out.trans_same k8;have h8:=HH.out.Q5 Qc1;obtain ⟨hpo,C3,Q08⟩:=HP.out;have Kb:=HH.out.at_.disk.lt;have Ub:=HH.out.at_.log.lt
   have hwr:=Hq h8.st h8.at_ h8.sF h8.sG Qj5.out hk (hpo.keep Qc1) C3 Q08 hQ hnb a8 c8 X (λW hW=>Own.rd' (Hh.keep hW λg hg hb=>by
    have h1:=Q4o g hg;have h2:=Gb.out.size;rcases hb with hb|hb
    ·have:=Kb g hb;omega
    ·have:=Ub g hb;omega)) (by omega)
   rw [<-Qph.out] at hwr;have Ff:=zz hwr;have Kx:=zz Qc1;have El:=zz ((Qz6.out.trans_same k8).get HB0.out.2 λx=>x);clear hwr h8 Qc1 k8 Hh Q4o hpo C3 Q08 Kb Ub Q3u Gb J1e;obtain ⟨Iq,Xc⟩: ∃z,z=wq.1:=⟨_,rfl⟩;rw [<-Xc] at Ff;by_cases hw0:Iq=0
   ·have b1:(Iq==0)=true:=by rw [beq_iff_eq];exact hw0
    have b2:(Iq !=0)=false:=by rw [bne,b1];rfl
    have Bj:q=((Fb st t1 t2,0),wq.2.1,{Fc st t1 t2 with n:=st.n+1},wq.2.2):=by rw [HQ.out,if_pos (by rw [<-Xc];exact hw0)]
    have Q7b:=zz Bj;have HW0:=zz (show wq.1=0 by rw [<-Xc];exact hw0);clear Bj Xc hw0;go_wp2_with fail
    refine Ff.out.mono ?_;rintro e w9 ⟨rfl,Kz⟩;obtain ⟨F',G',h9,I4,Bc,hk9⟩:=HH.out.wrote Kx.out Kz;rw [Gv st HW0.out] at h9;have htr:=Q8p (t1:=t1) (t2:=t2) h9.st (HI.out.Q39 _) (by omega) Vj.out.1 Vj.out.2.2 HM.out;have H9:=zz h9;have Q78:=zz (And.intro I4 (And.intro Bc hk9));have Q7g:=zz htr;obtain ⟨_,_,_,_,_,_,hkw⟩:=id Kz;have Kb:=HH.out.at_.disk.lt;have Ub:=HH.out.at_.log.lt;have hsl:=Q3 HH.out.st.cell
    have b9:=hkw.get El.out λhh=>by
     have h1:=Q7e.out;rcases hh with hh|hh|hh
     ·omega
     ·have:=Kb _ hh;omega
     ·have:=Ub _ hh;omega
    have n0:w9.cell? ⟨tb,0,none⟩=some (.int .i64 t1):=Q0 b9 0;have n1:w9.cell? ⟨tb,1,none⟩=some (.int .i64 t2):=Q0 b9 1;have J31:=Q3 b9;clear h9 I4 Bc hk9 htr Kz Ff hkw Kb Ub hsl b9;simp only [Xo] at Q7g;go_wp2_with fail
    refine Q7g.out.mono ?_;rintro e J9y ⟨rfl,cs',g1,g2,g3,g4⟩;have Qdt:=zz (H9.out.trimmed Q78.out.1 Q78.out.2.1 Q78.out.2.2 Vj.out.2.1 g1 g2 g3 g4);clear g1 g2 g3 g4 Q7g n0 n1 J31;go_wp2_with fail
    go_ret2
    rw [Q7b.out];exact ⟨rfl,Qdt.out⟩
   ·have b1:(Iq==0)=false:=by rw [beq_eq_false_iff_ne];exact hw0
    have b2:(Iq !=0)=true:=by rw [bne,b1];rfl
    have Bj:q=((0,Iq),wq.2.1,{st with dead:=true},wq.2.2):=by rw [HQ.out,if_neg (by rw [<-Xc];exact hw0),Xc]
    have Q7b:=zz Bj;have HW0:=zz (show wq.1≠0 by rw [<-Xc];exact hw0);clear Bj Xc hw0;go_wp2_with fail
    refine Ff.out.mono ?_;rintro e w9 ⟨rfl,Kz⟩;obtain ⟨F',G',h9,I4,Bc,hk9⟩:=HH.out.wrote Kx.out Kz;rw [Us st HW0.out] at h9;have Qdt:=zz (show Dw w s d l P Q o m cs ka kc K F G B {st with dead:=true} wq.2.1 wq.2.2 w9 from ⟨cs,ka,kc,K,F',G',h9,λ_ h=> .inl h,I4,Bc,hk9,Vj.out.1,Vj.out.2.1⟩);clear h9 I4 Bc hk9 Kz Ff;go_wp2_with fail
    go_ret2
    rw [Q7b.out];exact ⟨rfl,Qdt.out⟩
  ·rw [if_neg hlt] at hq
   have z1:decide (z<=0)=true:=decide_eq_true (by
    rcases Int.lt_or_le 0 z with h1|h1
    ·exact absurd (Bq.1 h1) hlt
    ·exact h1)
   have HS:=zz hsame;have sl0:=k0.lt (Q3 h.st.cell);subst hq;clear h hinv hfit Y4 C3 Q08 hsame hcB hkB hm hd Be hw0 htb k0 hi hT1 hT2 hlt Bq m1 m2 c1 c2;go_enter Tryz.func23,Tryz.ntmps23
   go_upto_region 1 with fail
   rw [<-Q7e.out,<-HW0.out];go_wp2_with fail
   refine Ht.out.mono ?_;rintro e w1 ⟨rfl,rfl⟩;go_wp2_with fail
   refine HST.out.mono ?_;rintro e w2 ⟨rfl,k2⟩;have Qz:=zz k2;have e0: ∀W,Kp No w2 W->W.cell? ⟨tb,0,none⟩=some (.int .i64 t1):=λW hW=>Q0 ((Qz.out.trans_same hW).get HB0.out.2 λx=>x) 0;have e1: ∀W,Kp No w2 W->W.cell? ⟨tb,1,none⟩=some (.int .i64 t2):=λW hW=>Q0 ((Qz.out.trans_same hW).get HB0.out.2 λx=>x) 1;have e8: ∀W,Kp No w2 W->W.cell? ⟨s,8,none⟩=some (.int .i64 st.mm):=λW hW=>HH.out.st.at_ ((HB0.out.1.trans_same Qz.out).trans_same hW) 8;have e9: ∀W,Kp No w2 W->W.cell? ⟨s,9,none⟩=some (.int .i64 st.mc):=λW hW=>HH.out.st.at_ ((HB0.out.1.trans_same Qz.out).trans_same hW) 9;have Qrv:=Qz.out.lt Qmt;have sl2:=Qz.out.lt sl0;clear k2 HST Ht d0 d1 b0;go_wp2_with fail
   refine zD No [0,0,0,0,0,2,0] [0,1,2,3,4,5,6] ?_;repeat (first|refine zA ?_|refine zB ?_|refine zC ?_)
   refine Q4 rfl rfl (λn1=>?_);go_wp2_with fail
   refine (HCM.out _).mono ?_;rintro e wa ⟨rfl,Gl⟩;have ka:Kp No w2 wa:=Gl.of_drewN;clear Gl;go_wp2_with fail
   (try refine ⟨ka,?_⟩)
   repeat (first|refine zA ?_|refine zB ?_|refine zC ?_)
   refine Q6 (λnq=>?_);have Zj:=zz ((HB0.out.1.trans_same Qz.out).trans_same (ka.drewN nq));clear ka;go_wp2_with fail
   go_ret2
   exact ⟨rfl,HS.out _ Zj.out⟩
end
def Qyn (w:World) (R:List Qd) (o:Option Qf) (e:Ending) (w':World):Prop:=
 match o with
 |none=>e= .returned (.tuple #[.agg #[.int .i64 0, .int .i64 0, .int .i64 0, .slice none 0 0, .bool false, .int .i64 0], .bool false])/\Kp No w w'
 |some v=> ∃y:Qd,y∈R/\y.v=v/\e= .returned (.tuple #[Y0 y, .bool true])/\Kp No w w'
theorem Qiq (w:World) (p:Option Addr) (m c:Int) (h: ∀W,Kp No w W->Calls Tryz.prog 135 #[.pointer p,Xo m c] W λe w'=>e= .returned (.int .i64 (-1))/\Kp No W w'):
  Calls Tryz.prog 80 #[.pointer p,Xo m c] w (Qyn w [] none):=by
 obtain ⟨w2,hw2⟩: ∃W,W=(w.alloc (.cells #[.int .i64 m, .int .i64 c] 25)).alloc (.cells #[.int .i64 0, .int .i64 0, .int .i64 0, .slice none 0 0, .bool false, .int .i64 0] 44):=⟨_,rfl⟩;have k2:Kp No w w2:=by rw [hw2];exact (zK.alloc _).alloc _
 have b1:w2.heap[w.heap.size]?=some (.cells #[.int .i64 m, .int .i64 c] 25 (0,0)):=by rw [hw2];exact J6 (heap_alloc_new w _) _
 have b2:w2.heap[w.heap.size+1]?=some (.cells #[.int .i64 0, .int .i64 0, .int .i64 0, .slice none 0 0, .bool false, .int .i64 0] 44 (0,0)):=by rw [hw2];exact (congrArg (λk=>((w.alloc _).alloc _).heap[k]?) (by simp)).trans (heap_alloc_new (w.alloc _) _)
 have c0:w2.cell? ⟨w.heap.size,0,none⟩=some (.int .i64 m):=Q0 b1 0;have c1:w2.cell? ⟨w.heap.size,1,none⟩=some (.int .i64 c):=Q0 b1 1;have hl1:=Q3 b1;have H:=zz (h w2 k2);have Qz:=zz k2;have HB2:=zz b2;have HW2:=zz hw2;clear h k2 b1 b2 hw2;go_enter Tryz.func80,Tryz.ntmps80
 go_upto_region 1 with fail
 rw [<-HW2.out];go_wp2_with fail
 refine H.out.mono ?_;rintro e w3 ⟨rfl,k3⟩;have HB3:=zz (k3.get HB2.out λx=>x);have Zj:=zz (Qz.out.trans_same k3);clear k3 c0 c1 hl1;have hl3:=Q3 HB3.out;go_wp2_with (refine Zi rfl 44 _ _ rfl (w.heap.size+1) _ rfl rfl 44 _ HB3 (by kernel_rfl) (by rfl) (by rfl) ?_)
 have b5:=U7 (cs:= #[.int .i64 0, .int .i64 0, .int .i64 0, .slice none 0 0, .bool false, .int .i64 0]) HB3.out;have d0:=Q0 b5 0;have d1:=Q0 b5 1;have d2:=Q0 b5 2;have d3:=Q0 b5 3;have d4:=Q0 b5 4;have d5:=Q0 b5 5;simp at d0 d1 d2 d3 d4 d5
 refine bodyPost_ret (v:= .tuple #[.agg #[.int .i64 0, .int .i64 0, .int .i64 0, .slice none 0 0, .bool false, .int .i64 0], .bool false]) (by simp [results,Tryz.results80,go_sem,d0,d1,d2,d3,d4,d5]) rfl ⟨rfl,Zj.out.setRow (.inr (by omega)) _⟩
theorem Qir (w:World) (k0:Ja) (m c:Int) (hc:Y7 148 w k0) (hs:Li k0.vs) (hn:k0.R.length<=1000000) (v:Qf) (hv:Lw k0.vs m c=some v):
  Calls Tryz.prog 80 #[.pointer (some ⟨k0.b,0,none⟩),Xo m c] w (Qyn w k0.R (some v)):=by
 obtain ⟨u,hu1,hu2⟩:=Gd hv;have hup:=λW (h:Kp No w W)=>Nx W k0 m c (hc.Q5 h) hs hn;rw [hu1] at hup;obtain ⟨cb,ra,rc,R⟩:=k0;obtain ⟨n,hnR⟩: ∃n,n=R.length:=⟨_,rfl⟩;have hrow:(⟨cb,ra,rc,R⟩:Ja).row= .slice ra n rc:=by unfold Ja.row;rw [hnR]
 have hR:Rd w w.heap.size ra (R.flatMap Qg):=by have:=Own.rd' (a:=ra) (cap:=rc) (m:=R.length) hc.own;exact this
 have hu2:(R.map Qd.v)[u]?=some v:=hu2;rw [List.getElem?_map] at hu2;obtain ⟨x,hx,hxv⟩:=Option.map_eq_some_iff.1 hu2;have Qh4:=(List.getElem?_eq_some_iff.1 hx).1;have hxe:R[u]=x:=(List.getElem?_eq_some_iff.1 hx).2;have hxo:x.ok w:=hc.vals x (List.mem_of_getElem? hx);obtain ⟨g,off,rfl,hgl,hgr⟩:=Yh hR Qh4;rw [hxe] at hgr;have hun:u<n:=by omega
 obtain ⟨w2,hw2⟩: ∃W,W=(w.alloc (.cells #[.int .i64 m, .int .i64 c] 25)).alloc (.cells #[.int .i64 0, .int .i64 0, .int .i64 0, .slice none 0 0, .bool false, .int .i64 0] 44):=⟨_,rfl⟩;have k2:Kp No w w2:=by rw [hw2];exact (zK.alloc _).alloc _
 have b1:w2.heap[w.heap.size]?=some (.cells #[.int .i64 m, .int .i64 c] 25 (0,0)):=by rw [hw2];exact J6 (heap_alloc_new w _) _
 have b2:w2.heap[w.heap.size+1]?=some (.cells #[.int .i64 0, .int .i64 0, .int .i64 0, .slice none 0 0, .bool false, .int .i64 0] 44 (0,0)):=by rw [hw2];exact (congrArg (λk=>((w.alloc _).alloc _).heap[k]?) (by simp)).trans (heap_alloc_new (w.alloc _) _)
 have c0:w2.cell? ⟨w.heap.size,0,none⟩=some (.int .i64 m):=Q0 b1 0;have c1:w2.cell? ⟨w.heap.size,1,none⟩=some (.int .i64 c):=Q0 b1 1;have hl1:=Q3 b1;have hcb:=Q3 hc.cell;simp only at hcb
 have hw3:((u+1:Nat):Int)-1=(u:Int):=by push_cast;omega
 rw [hw3] at hup;have hub:u<=1000001:=by simp only at hn;omega
 clear hw3;have H:=zz (hup w2 k2);have Qz:=zz k2;have HB2:=zz b2;have HW2:=zz hw2;have HC:=zz hc;have V0:=zz hrow;have Q6w:=zz hgr;have HX:=zz (And.intro hxv (List.mem_of_getElem? hx));clear hup k2 b1 b2 hw2 hc hrow hgr hxv hxo hnR hR hu2 hx hxe Qh4 hu1 hv hs;go_enter Tryz.func80,Tryz.ntmps80
 go_upto_region 1 with fail
 rw [<-HW2.out];go_wp2_with fail
 refine H.out.mono ?_;rintro e w3 ⟨rfl,k3⟩;have HB3:=zz (k3.get HB2.out λx=>x);have Zj:=zz (Qz.out.trans_same k3);clear k3 c0 c1 hl1;have hl3:=Q3 HB3.out
 have f0:w3.cell? ⟨cb,0,none⟩=some (.slice (some ⟨g,off,none⟩) n rc):=by
  have:=HC.out.cells.1 w3 Zj.out;rw [V0.out] at this;exact this
 have Qni:=zz (Q6w.out w3 Zj.out);have hcb3:=Zj.out.lt hcb;have hg3:=Zj.out.lt hgl;go_upto_region 4 with fail
 simp only [Qg] at Qni
 go_wp2_with (first
  |(refine Qe rfl 44 _ rfl g (off+u*6) rfl _ _ Qni Tryz.underlying44 rfl (by kernel_rfl) ?_)
  |(refine Zi rfl 44 _ _ rfl (w.heap.size+1) _ rfl rfl 44 _ HB3 (by kernel_rfl) (by rfl) (by rfl) ?_))
 have b5:=U7 (cs:= #[.int .i64 x.v.m, .int .i64 x.v.c, .int .i64 x.v.o,x.sl, .bool x.v.gone, .int .i64 x.v.ttl]) HB3.out;have d0:=Q0 b5 0;have d1:=Q0 b5 1;have d2:=Q0 b5 2;have d3:=Q0 b5 3;have d4:=Q0 b5 4;have d5:=Q0 b5 5;simp at d0 d1 d2 d3 d4 d5
 refine bodyPost_ret (v:= .tuple #[.agg #[.int .i64 x.v.m, .int .i64 x.v.c, .int .i64 x.v.o,x.sl, .bool x.v.gone, .int .i64 x.v.ttl], .bool true]) (by simp [results,Tryz.results80,go_sem,d0,d1,d2,d3,d4,d5]) rfl ⟨x,HX.out.2,HX.out.1,rfl,Zj.out.setRow (.inr (by omega)) _⟩
def Qt0 (w:World) (R:List Qd) (o:Option (List UInt8)) (e:Ending) (w':World):Prop:=
 match o with
 |none=>e= .returned (.tuple #[.slice none 0 0, .bool false])/\Kp No w w'
 |some l=> ∃y:Qd,y∈R/\y.v.val=l/\e= .returned (.tuple #[y.sl, .bool true])/\Kp No w w'
theorem Q6n (w:World) (R:List Qd) (p:Option Addr) (m c:Int) (o:Option Qf) (hm:m<=9223372036854775807) (h: ∀W,Kp No w W->Calls Tryz.prog 80 #[.pointer p,Xo m c] W (Qyn W R o)) (hv: ∀v,o=some v->Zx v=true):
  Calls Tryz.prog 28 #[.pointer p,Xo m c] w (Qt0 w R (Q90 o m c)):=by
 obtain ⟨w1,hw1⟩: ∃W,W=w.alloc (.cells #[.int .i64 m, .int .i64 c] 25):=⟨_,rfl⟩;have k1:Kp No w w1:=by rw [hw1];exact zK.alloc _
 have b1:w1.heap[w.heap.size]?=some (.cells #[.int .i64 m, .int .i64 c] 25 (0,0)):=by rw [hw1];exact heap_alloc_new w _
 have c0:w1.cell? ⟨w.heap.size,0,none⟩=some (.int .i64 m):=Q0 b1 0;have c1:w1.cell? ⟨w.heap.size,1,none⟩=some (.int .i64 c):=Q0 b1 1;have hl1:=Q3 b1;have H:=zz (h w1 k1);have U8:=zz k1;have HB1:=zz b1;have HW1:=zz hw1;clear h k1 b1 hw1;cases o with
 |none=>
  go_enter Tryz.func28,Tryz.ntmps28
  go_upto_region 1 with fail
  rw [<-HW1.out];go_wp2_with fail
  refine H.out.mono ?_;rintro e w3 ⟨rfl,k3⟩;have Zj:=zz (U8.out.trans_same k3);clear k3 c0 c1 hl1;go_wp2_with fail
  go_ret2
  exact ⟨rfl,Zj.out.alloc _⟩
 |some v=>
  have hvv:=hv v rfl;have HVV:=zz hvv;clear hv hvv;go_enter Tryz.func28,Tryz.ntmps28
  go_upto_region 1 with fail
  rw [<-HW1.out];go_wp2_with fail
  refine H.out.mono ?_;rintro e w3 ⟨y,hyo,hyv,rfl,k3⟩;simp only [Y0,Qg];have Zj:=zz (U8.out.trans_same k3);have HB3:=zz (k3.get HB1.out λx=>x);have HY:=zz (And.intro hyv hyo);clear k3 c0 c1 hl1 hyv hyo;go_upto_region 2 with (refine Qy rfl 44 _ _ rfl w3.heap.size (by rfl) _ _ _ rfl rfl (by kernel_rfl) (by rfl) (by rfl) ?_)
  obtain ⟨w5,hw5⟩: ∃W,W=w3.alloc (.cells #[.int .i64 y.v.m, .int .i64 y.v.c, .int .i64 y.v.o,y.sl, .bool y.v.gone, .int .i64 y.v.ttl] 44):=⟨_,rfl⟩;have k5:Kp No w3 w5:=by rw [hw5];exact zK.alloc _
  have b5:w5.heap[w3.heap.size]?=some (.cells #[.int .i64 y.v.m, .int .i64 y.v.c, .int .i64 y.v.o,y.sl, .bool y.v.gone, .int .i64 y.v.ttl] 44 (0,0)):=by rw [hw5];exact heap_alloc_new w3 _
  rw [<-hw5];have d0:w5.cell? ⟨w3.heap.size,0,none⟩=some (.int .i64 y.v.m):=Q0 b5 0;have d1:w5.cell? ⟨w3.heap.size,1,none⟩=some (.int .i64 y.v.c):=Q0 b5 1;have d2:w5.cell? ⟨w3.heap.size,2,none⟩=some (.int .i64 y.v.o):=Q0 b5 2;have d3:w5.cell? ⟨w3.heap.size,3,none⟩=some y.sl:=Q0 b5 3;have d4:w5.cell? ⟨w3.heap.size,4,none⟩=some (.bool y.v.gone):=Q0 b5 4;have d5:w5.cell? ⟨w3.heap.size,5,none⟩=some (.int .i64 y.v.ttl):=Q0 b5 5;have c0:w5.cell? ⟨w.heap.size,0,none⟩=some (.int .i64 m):=Q0 (k5.get HB3.out λx=>x) 0;have c1:w5.cell? ⟨w.heap.size,1,none⟩=some (.int .i64 c):=Q0 (k5.get HB3.out λx=>x) 1;have hl5:=Q3 b5;have J1e:=Q3 (k5.get HB3.out λx=>x);have Ga:=zz k5;have Q0q:=zz b5;have hsn:=Q1u y (by rw [HY.out.1];exact HVV.out) m c hm w5;rw [HY.out.1] at hsn;have Qk3:=zz hsn;clear hw5 k5 b5 hsn;cases hse:Vr v m c with
  |true=>
   have Qen:=zz hse;clear hse;go_wp2_with fail
   refine Qk3.out.mono ?_;rintro e w6 ⟨rfl,k6⟩;rw [Qen.out];have h3:w6.cell? ⟨w3.heap.size,3,none⟩=some y.sl:=Q0 (k6.get Q0q.out λx=>x) 3;have Qss:=Q3 (k6.get Q0q.out λx=>x);have Gb:=zz k6;clear k6 d0 d1 d2 d3 d4 d5 c0 c1;go_wp2_with fail
   go_ret2
   rw [Qat Qen.out,<-HY.out.1];exact ⟨y,HY.out.2,rfl,rfl,(Zj.out.trans_same Ga.out).trans_same Gb.out⟩
  |false=>
   have Qen:=zz hse;clear hse;go_wp2_with fail
   refine Qk3.out.mono ?_;rintro e w6 ⟨rfl,k6⟩;rw [Qen.out];have Gb:=zz k6;clear k6 d0 d1 d2 d3 d4 d5 c0 c1;go_wp2_with fail
   go_ret2
   rw [Qin Qen.out];exact ⟨rfl,(Zj.out.trans_same Ga.out).trans_same Gb.out⟩
end Go.Proofs.YtgnkmjeoaoongaaGreatDoor
