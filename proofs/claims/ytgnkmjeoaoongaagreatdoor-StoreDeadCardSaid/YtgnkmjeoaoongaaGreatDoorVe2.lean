/- store -/
import Derived.Test.YtgnkmjeoaoongaaGreatDoorVe0
import Derived.Test.YtgnkmjeoaoongaaGreatDoorVd3
set_option maxRecDepth 100000
set_option maxHeartbeats 4000000
open List (length_cons map_cons sum_cons not_mem_nil mem_map length_map)
open Nat (le_refl le_add_right zero_le le_trans)
namespace Go.Proofs.YtgnkmjeoaoongaaGreatDoor
open Go.RowKit Go.Mer
theorem Qqu {P:ByteArray} {o:Nat} {s:Qz} {st:Ja} {lg:Jf} (h:Inv o st) (l:List Qu):Inv o (J8 P o s st lg l).2.2.1:=by
 unfold J8;split
 ·exact h
 ·split
  ·exact h
  ·split
   ·next hm=>
    simp only
    split
    ·have h1:=Q52 h hm;exact Ic h1 (Jh o st l).Zc (st.n+1) (Jh o st l).dead
    ·exact Ic h st.Zc st.n true
   ·exact h
theorem Q81 (o:Nat): ∀(L:List Qu) (st:Ja),(Jh o st L).Zc=st.Zc
 |[],_=>rfl
 |r::L,st=>Q81 o L (E7 o st r)
theorem Ip {P:ByteArray} {o:Nat} {s:Qz} {st:Ja} {lg:Jf} (l:List Qu):(J8 P o s st lg l).2.2.1.Zc=st.Zc:=by
 unfold J8;split
 ·rfl
 ·split
  ·rfl
  ·split
   ·simp only
    split
    ·exact Q81 o l st
    ·rfl
   ·rfl
def Q3o (l:List (ByteArray×List Qo)):Nat:=(l.map λp=>p.2.length).sum
theorem Qe2 (st:Ja):Z7 st=Q3o st.keys:=rfl
theorem Qn0 (l:List (ByteArray×List Qo)) (k:ByteArray) (c:List Qo):(Z3 l k c).length<=l.length+1:=by
 induction l with
 |nil=>exact le_refl _
 |cons x l ih=>
  rw [Z3];split
  ·rw [length_cons,length_cons];omega
  ·split
   ·rw [length_cons,length_cons];omega
   ·rw [length_cons,length_cons];omega
theorem Qh0 {l:List (ByteArray×List Qo)} (hs:Yy l) (k:ByteArray) (c:List Qo):Q3o (Z3 l k c)+(Qw l k).length=Q3o l+c.length:=by
 induction l with
 |nil=>
  show c.length+0+(Qw [] k).length=0+c.length
  rw [show Qw [] k=[] from rfl];simp
 |cons x l ih=>
  obtain ⟨h1,h2⟩:=List.pairwise_cons.1 hs;have ih:=ih h2;rw [Z3]
  have hc:Qw (x::l) k=if x.1=k then x.2 else Qw l k:=by
   unfold Qw;rw [Up];split<;>rfl
  unfold Q3o at ih⊢;split
  ·next hx=>
   rw [hc,if_neg (λe=>by rw [e] at hx;exact Jr _ hx)];simp only [map_cons,sum_cons];omega
  ·next hx=>
   split
   ·next he=>
    rw [hc,if_pos he];simp only [map_cons,sum_cons];omega
   ·next he=>
    have hk:Uf k x.1:=by
     rcases Ad x.1 k with h|h|h
     ·exact absurd h hx
     ·exact absurd h he
     ·exact h
    have hn:Qw l k=[]:=by
     have:=Yy.gone hs (.inl hk);have h3:Qs l k=none:=this;unfold Qw;rw [h3];rfl
    rw [hc,if_neg he,hn];simp only [map_cons,sum_cons,List.length_nil];omega
theorem Q82 {o:Nat}: ∀(l:List Qu) {st:Ja},Yy st.keys->(Jh o st l).keys.length<=st.keys.length+l.length/\Z7 (Jh o st l)<=Z7 st+l.length/\Yy (Jh o st l).keys
 |[],_,hs=>⟨le_refl _,le_refl _,hs⟩
 |r::l,st,hs=>by
  obtain ⟨h1,h2,h3⟩:=Q82 l (st:=E7 o st r) (Qn5 hs r);have h4:=Qn0 st.keys r.key (E0 (Qw st.keys r.key) r.v);have h5:=Qh0 hs r.key (E0 (Qw st.keys r.key) r.v);rw [Fp] at h5;have e1:(E7 o st r).keys=Z3 st.keys r.key (E0 (Qw st.keys r.key) r.v):=rfl;have e2:Z7 (E7 o st r)=Q3o (Z3 st.keys r.key (E0 (Qw st.keys r.key) r.v)):=rfl;have e3:=Qe2 st;rw [e1] at h1;rw [e2] at h2;rw [length_cons];refine ⟨?_,?_,h3⟩
  ·show (Jh o (E7 o st r) l).keys.length<=_
   omega
  ·show Z7 (Jh o (E7 o st r) l)<=_
   omega
theorem Qqv {P:ByteArray} {o:Nat} {s:Qz} {st:Ja} {lg:Jf} (hs:Yy st.keys) (l:List Qu):(J8 P o s st lg l).2.2.1.keys.length<=st.keys.length+l.length/\Z7 (J8 P o s st lg l).2.2.1<=Z7 st+l.length:=by
 have h:=Q82 (o:=o) l hs;unfold J8;split
 ·exact ⟨le_add_right _ _,le_add_right _ _⟩
 ·split
  ·exact ⟨le_add_right _ _,le_add_right _ _⟩
  ·split
   ·simp only
    split
    ·exact ⟨h.1,h.2.1⟩
    ·exact ⟨le_add_right _ _,le_add_right _ _⟩
   ·exact ⟨le_add_right _ _,le_add_right _ _⟩
theorem Ql2 (P:ByteArray) (room:Nat) (h:room<=1048576):Bu 0 P ⟨room,none,[]⟩ Er st0:=
 ⟨⟨h,λp hp=>absurd hp not_mem_nil,λ_=>zero_le _,zero_le _,λz hz=>absurd hz not_mem_nil,zero_le _,zero_le _,λz hz=>absurd hz not_mem_nil⟩,
  λ_=>⟨rfl,λS1 z e=>(by
   have:([]:List (Nat×Nat))=S1++[z]:=e;simp at this),λp hp=>absurd hp not_mem_nil,List.Pairwise.nil,λz hz=>absurd hz not_mem_nil⟩,zero_le _⟩
def Qox (w:World) (s d:Nat) (P:ByteArray) (o:Nat) (st:Ja) (ds:Qz) (lg:Jf) (B:Nat) (H:Nat->Prop):Prop:=
 ∃l m cs ka kc K F G,Q6n w s d l P (Zj P st.Zc) o st m cs ka kc K ds lg F G/\(∀p∈cs,p.2.R.length<=B)/\K.length<=B/\(∀k,Ve s m cs ka kc K k\/F k\/G k->H k)/\ ∀k,H k->k<w.heap.size
def Qoy (w:World) (x r:Nat) (P:ByteArray) (o:Nat) (st:Ja) (ds:Qz) (lg:Jf) (B:Nat) (H:Nat->Prop):Prop:=
 ∃y la lc cs ka kc K F G,D7 w x r y P (Zj P st.Zc) o st la lc cs ka kc K ds lg F G/\(∀p∈cs,p.2.R.length<=B)/\K.length<=B/\(∀k,Zg x la lc cs ka kc K k\/F k\/G k->H k)/\ ∀k,H k->k<w.heap.size
theorem Q6n.Kf {w w':World} {s d l o m:Nat} {P Q:ByteArray} {st:Ja} {cs:Zn} {ka:Option Addr} {kc:Nat} {K:List Qe} {ds:Qz} {lg:Jf} {F G S:Nat->Prop} (h:Q6n w s d l P Q o st m cs ka kc K ds lg F G) (hk:Kp S w w') (hS: ∀k,Ve s m cs ka kc K k\/F k\/G k-> ¬S k):Q6n w' s d l P Q o st m cs ka kc K ds lg F G:=
 ⟨h.st.keep hk λk hf=>hS k (.inl hf),h.at_.Kf hk (λk hf=>hS k (.inr (.inl hf))) (λk hf=>hS k (.inr (.inr hf))),h.sF,h.sG⟩
theorem D7.Kf {w w':World} {x r y o:Nat} {P Q:ByteArray} {st:Ja} {la ka:Option Addr} {lc kc:Nat} {cs:Zn} {K:List Qe} {ds:Qz} {lg:Jf} {F G S:Nat->Prop} (h:D7 w x r y P Q o st la lc cs ka kc K ds lg F G) (hk:Kp S w w') (hS: ∀k,Zg x la lc cs ka kc K k\/F k\/G k-> ¬S k):D7 w' x r y P Q o st la lc cs ka kc K ds lg F G:=
 ⟨h.st.keep hk λk hf=>hS k (.inl hf),⟨h.at_.disk.keep hk λk hf=>hS k (.inr (.inl hf)),h.at_.log.keep hk λk hf=>hS k (.inr (.inr hf)),h.at_.sep⟩,h.sF,h.sG⟩
theorem Qox.keep {w w':World} {s d o B:Nat} {P:ByteArray} {st:Ja} {ds:Qz} {lg:Jf} {H S:Nat->Prop} (h:Qox w s d P o st ds lg B H) (hk:Kp S w w') (hS: ∀k,H k-> ¬S k):Qox w' s d P o st ds lg B H:=by
 obtain ⟨l,m,cs,ka,kc,K,F,G,h1,h2,h3,h4,h5⟩:=h;exact ⟨l,m,cs,ka,kc,K,F,G,h1.Kf hk (λk hf=>hS k (h4 k hf)),h2,h3,h4,λk hf=>hk.lt (h5 k hf)⟩
theorem Qoy.keep {w w':World} {x r o B:Nat} {P:ByteArray} {st:Ja} {ds:Qz} {lg:Jf} {H S:Nat->Prop} (h:Qoy w x r P o st ds lg B H) (hk:Kp S w w') (hS: ∀k,H k-> ¬S k):Qoy w' x r P o st ds lg B H:=by
 obtain ⟨y,la,lc,cs,ka,kc,K,F,G,h1,h2,h3,h4,h5⟩:=h;exact ⟨y,la,lc,cs,ka,kc,K,F,G,h1.Kf hk (λk hf=>hS k (h4 k hf)),h2,h3,h4,λk hf=>hk.lt (h5 k hf)⟩
theorem Qox.lt {w:World} {s d o B:Nat} {P:ByteArray} {st:Ja} {ds:Qz} {lg:Jf} {H:Nat->Prop} (h:Qox w s d P o st ds lg B H): ∀k,H k->k<w.heap.size:=by
 obtain ⟨_,_,_,_,_,_,_,_,_,_,_,_,h⟩:=h;exact h
theorem Qoy.lt {w:World} {s d o B:Nat} {P:ByteArray} {st:Ja} {ds:Qz} {lg:Jf} {H:Nat->Prop} (h:Qoy w s d P o st ds lg B H): ∀k,H k->k<w.heap.size:=by
 obtain ⟨_,_,_,_,_,_,_,_,_,_,_,_,_,h⟩:=h;exact h
structure Qt (w0 w:World) (p d s r x:Nat) (P:ByteArray) (o:Nat) (st:Ja) (ds:Qz) (lg:Jf) (st':Ja) (ds':Qz) (X9:Jf) (B:Nat) (H1 H2:Nat->Prop):Prop where
 cell:w.heap[p]?=some (.cells #[Vk d,Vk s,Vk r,Vk x] 39 (0,0))
 prog:Qox w s d P o st ds lg B H1
 ref:Qoy w x r P o st' ds' X9 B H2
 sep: ∀k,H1 k-> ¬H2 k
 p1: ¬H1 p
 p2: ¬H2 p
 new:w0.heap.size<=p/\(∀k,H1 k->w0.heap.size<=k)/\ ∀k,H2 k->w0.heap.size<=k
 kp:Kp No w0 w
theorem Qt.no {w0 w w':World} {p d s r x o B:Nat} {P:ByteArray} {st st':Ja} {ds ds':Qz} {lg X9:Jf} {H1 H2:Nat->Prop} (h:Qt w0 w p d s r x P o st ds lg st' ds' X9 B H1 H2) (hk:Kp No w w'):Qt w0 w' p d s r x P o st ds lg st' ds' X9 B H1 H2:=
 ⟨hk.get h.cell λx=>x,h.prog.keep hk λ_ _ x=>x,h.ref.keep hk λ_ _ x=>x,h.sep,h.p1,h.p2,h.new,h.kp.Q0 hk⟩
theorem Qt.at_ {w0 w w':World} {p d s r x o B:Nat} {P:ByteArray} {st st':Ja} {ds ds':Qz} {lg X9:Jf} {H1 H2:Nat->Prop} (h:Qt w0 w p d s r x P o st ds lg st' ds' X9 B H1 H2) (hk:Kp No w w') (i:Nat):w'.cell? ⟨p,i,none⟩=(#[Vk d,Vk s,Vk r,Vk x]:Array Value)[i]?:=Q4 (hk.get h.cell λx=>x) i
theorem Q8f (w0 w:World) (p d r:Nat) (ds:Qz) (F H:Nat->Prop) (hp:w.heap[p]?=some (.cells #[.pointer (some ⟨d,0,none⟩), .pointer none, .pointer (some ⟨r,0,none⟩), .pointer none] 39 (0,0))) (hD:Zd w d ds F) (hR:Mr w r ds H) (J4g: ∀k,F k-> ¬H k) (J4h: ¬F p) (J4j: ¬H p)
  (hds:ds.files=[]) (hroom:ds.room<=1048576) (Yo:Pow w) (Q65: ¬F 0) (hk0:Kp No w0 w) (J0k: ∀k,F k->w0.heap.size<=k) (hH0: ∀k,H k->w0.heap.size<=k) (hp0:w0.heap.size<=p):
  Calls Tryz.prog 43 #[.pointer (some ⟨p,0,none⟩)] w λe w'=>e= .returned (.bool true)/\ ∃s x H1 H2,Qt w0 w' p d s r x ⟨#[109]⟩ 0 Er ds st0 Er ds st0 0 H1 H2:=by
 have hop:=Q92 w d ⟨#[109]⟩ 0 ds F hD hds Yo Q65 (by decide) (by decide) hroom (by decide);have c0:w.cell? ⟨p,0,none⟩=some (.pointer (some ⟨d,0,none⟩)):=Q4 hp 0;have lp:=Q7 hp;have Qad:=zz hop;have HP:=zz hp;have HR:=zz (And.intro hR (And.intro hds hroom));have HD:=zz hD;have HN:=zz (And.intro J4g (And.intro J4h (And.intro J4j (And.intro hk0 (And.intro J0k (And.intro hH0 hp0))))));clear hop hp hR hD J4g J4h J4j hk0 J0k hH0 hp0 hds hroom Yo Q65;go_enter Tryz.func43,Tryz.ntmps43
 go_wp2_with fail
 refine Qad.out.mono ?_;rintro e w1 ⟨s,l,m,F1,G1,rfl,hS,hF1,hG1,hS1,k1⟩;have b1:=k1.get HP.out HN.out.2.1;have hR1:=HR.out.1.keep k1 λk hk hf=>HN.out.1 k hf hk;have c2:w1.cell? ⟨p,2,none⟩=some (.pointer (some ⟨r,0,none⟩)):=Q4 b1 2;have l1:=Q7 b1;have hop:=Q2s w1 r ⟨#[109]⟩ 0 ds H hR1 HR.out.2.1 (by decide) (by decide) (by have:=HR.out.2.2;omega) (by decide);have Qz5:=zz hop;have H1:=zz (And.intro hS (And.intro hF1 (And.intro hG1 (And.intro hS1 k1))));have HB1:=zz b1;have HR1:=zz hR1;clear hS hF1 hG1 hS1 k1 b1 hR1 hop Qad c0 lp;go_wp2_with fail
 refine Qz5.out.mono ?_;rintro e w2 ⟨x,y,F2,G2,rfl,hX,hF2,hG2,hx2,k2⟩;have b2:=k2.get HB1.out HN.out.2.2.1;have f1:=Qh b2 1;have f3:=Qh b2 3;have d1:w2.cell? ⟨p,1,none⟩=some (.pointer none):=Q4 b2 1;have d3:w2.cell? ⟨p,3,none⟩=some (.pointer none):=Q4 b2 3;have l2:=Q7 b2;have H2:=zz (And.intro hX (And.intro hF2 (And.intro hG2 (And.intro hx2 k2))));have HB2:=zz b2;clear hX hF2 hG2 hx2 k2 b2 Qz5 c2 l1;go_wp2_with fail
 obtain ⟨w3,hw3⟩: ∃W,W=(w2.setCell ⟨p,1,none⟩ (.pointer (some ⟨s,0,none⟩))).setCell ⟨p,3,none⟩ (.pointer (some ⟨x,0,none⟩)):=⟨_,rfl⟩
 have k3:Kp (Mer.One p) w2 w3:=by
  rw [hw3];exact ((Kp.refl (Mer.One p) w2).setCell (p:=⟨p,1,none⟩) (.inl (show Mer.One p p from rfl)) _).setCell (p:=⟨p,3,none⟩) (.inl (show Mer.One p p from rfl)) _
 have b3:w3.heap[p]?=some (.cells #[Vk d,Vk s,Vk r,Vk x] 39 (0,0)):=by
  rw [hw3,Ql (Ql HB2.out 1 _) 3 _];rfl
 rw [<-hw3];clear hw3;go_ret
 obtain ⟨hS,hF1,hG1,hS1,k1⟩:=H1.out;obtain ⟨hX,hF2,hG2,hx2,k2⟩:=H2.out;obtain ⟨J4g,J4h,J4j,hk0,J0k,hH0,hp0⟩:=HN.out;have lp:=Q7 HP.out;have Bx:=HD.out.lt;have J4i:=HR.out.1.lt;have s1:=k1.size;have s2:=k2.size;have s0:=hk0.size
 have J76: ∀k,Ve s m [] none 0 [] k\/F1 k\/G1 k->F k\/w.heap.size<=k:=by
  rintro k (h|h|h)
  ·exact .inr (hS1 k h)
  ·exact hF1 k h
  ·exact .inr (hG1 k h)
 have hHB: ∀k,Zg x none 0 [] none 0 [] k\/F2 k\/G2 k->H k\/w1.heap.size<=k:=by
  rintro k (h|h|h)
  ·rw [Q11 h];exact .inr hx2
  ·exact hF2 k h
  ·exact .inr (hG2 k h)
 have hAl: ∀k,Ve s m [] none 0 [] k\/F1 k\/G1 k->k<w1.heap.size:=by
  rintro k (h|h|h)
  ·exact hS.st.lt k h
  ·exact hS.at_.disk.lt k h
  ·exact hS.at_.log.lt k h
 have hBl: ∀k,Zg x none 0 [] none 0 [] k\/F2 k\/G2 k->k<w2.heap.size:=by
  rintro k (h|h|h)
  ·exact hX.st.lt k h
  ·exact hX.at_.disk.lt k h
  ·exact hX.at_.log.lt k h
 have Jbd: ∀k,Ve s m [] none 0 [] k\/F1 k\/G1 k-> ¬H k:=λk hk hh=>by
  rcases J76 k hk with h|h
  ·exact J4g k h hh
  ·have:=J4i k hh;omega
 have Jbe: ¬(Ve s m [] none 0 [] p\/F1 p\/G1 p):=λhh=>by
  rcases J76 p hh with h|h
  ·exact J4h h
  ·omega
 have J0j: ¬(Zg x none 0 [] none 0 [] p\/F2 p\/G2 p):=λhh=>by
  rcases hHB p hh with h|h
  ·exact J4j h
  ·omega
 refine ⟨rfl,s,x,_,_,⟨b3,⟨l,m,[],none,0,[],F1,G1,(hS.Kf k2 Jbd).Kf k3 (λk hk e=>Jbe ((show k=p from e)▸hk)),λ_ h=>absurd h not_mem_nil,le_refl _,λ_ h=>h,λk hk=>k3.lt (k2.lt (hAl k hk))⟩,
  ⟨y,none,0,[],none,0,[],F2,G2,hX.Kf k3 (λk hk e=>J0j ((show k=p from e)▸hk)),λ_ h=>absurd h not_mem_nil,le_refl _,λ_ h=>h,λk hk=>k3.lt (hBl k hk)⟩,λk hk hh=>?_,Jbe,J0j,⟨hp0,λk hk=>?_,λk hk=>?_⟩,?_⟩⟩
 ·rcases hHB k hh with h|h
  ·exact Jbd k hk h
  ·have:=hAl k hk;omega
 ·rcases J76 k hk with h|h
  ·exact J0k k h
  ·omega
 ·rcases hHB k hk with h|h
  ·exact hH0 k h
  ·omega
 ·refine ((hk0.trans k1 λi hi hf=>?_).trans k2 λi hi hf=>?_).trans k3 λi hi hf=>?_
  ·have:=J0k i hf;omega
  ·have:=hH0 i hf;omega
  ·have hf:i=p:=hf;omega
theorem Iu (w:World) (room:Nat) (Yo:Pow w) (hroom:room<=1048576):
  Calls Tryz.prog 15 #[.int .i64 (room:Int)] w λe w'=> ∃p d s r x H1 H2,e= .returned (.tuple #[.pointer (some ⟨p,0,none⟩), .bool true])/\Qt w w' p d s r x ⟨#[109]⟩ 0 Er ⟨room,none,[]⟩ st0 Er ⟨room,none,[]⟩ st0 0 H1 H2:=by
 have Dd:=zz Yo;go_enter Tryz.func15,Tryz.ntmps15
 go_wp2_with fail
 refine (Qqp room w (by omega)).mono ?_;rintro e w1 ⟨rfl,hk1,F,hD1,hF1⟩;have H1:=zz (And.intro hk1 (And.intro hD1 hF1));obtain ⟨d,hd⟩: ∃d,d=w.heap.size+1:=⟨_,rfl⟩;rw [<-hd] at H1⊢;clear hk1 hD1 hF1 hd Yo;go_wp2_with fail
 refine (Qmo room w1 (by omega)).mono ?_;rintro e w2 ⟨r,rfl,hk2,H,hR2,hH2⟩;obtain ⟨W3,hW3⟩: ∃V,V=w2.alloc (.cells #[.pointer (some ⟨d,0,none⟩), .pointer none, .pointer (some ⟨r,0,none⟩), .pointer none] 39):=⟨_,rfl⟩;have k3:Kp No w2 W3:=by rw [hW3];exact zK.alloc _
 have hq3:W3.heap[w2.heap.size]?=some (.cells #[.pointer (some ⟨d,0,none⟩), .pointer none, .pointer (some ⟨r,0,none⟩), .pointer none] 39 (0,0)):=by rw [hW3];exact heap_alloc_new w2 _
 have Bx:=H1.out.2.1.lt;have J4i:=hR2.lt;have s1:=H1.out.1.size;have s2:=hk2.size;have Qqh:=(H1.out.1.Q0 hk2).Q0 k3
 have hop:=Q8f w W3 w2.heap.size d r ⟨room,none,[]⟩ F H hq3 ((H1.out.2.1.Q9 hk2).Q9 k3) (hR2.Q9 k3) (λk hf hh=>by have:=Bx k hf;have:=hH2 k hh;omega) (λhf=>by have:=Bx _ hf;omega) (λhf=>by have:=J4i _ hf;omega) rfl hroom (Dd.out.keep Qqh)
  (λhf=>by have:=H1.out.2.2 _ hf;have:=Dd.out.lt;omega) Qqh H1.out.2.2 (λk hk=>by have:=hH2 k hk;omega) (by omega)
 have Qad:=zz hop;obtain ⟨p,hp⟩: ∃p,p=w2.heap.size:=⟨_,rfl⟩;rw [<-hp] at Qad;clear hk2 hR2 hH2 hq3 hop k3 Qqh Bx J4i s1 s2;go_upto_region 8 with fail
 rw [<-hW3,<-hp];clear hW3 hp;go_wp2_with fail
 refine Qad.out.mono ?_;rintro e w4 ⟨rfl,s,x,Hu,Q69,hP⟩;have HF:=zz hP;clear hP;go_wp2_with fail
 go_ret2
 exact ⟨p,d,s,r,x,Hu,Q69,rfl,HF.out⟩
theorem X6.J0d {w:World} {s d l o m B:Nat} {P:ByteArray} {st:Ja} {cs:Zn} {ka:Option Addr} {kc:Nat} {K:List Qe} (h:X6 w s d l P o st m cs ka kc K) (hinv:Inv o st) (hB:B<=1000000) (hc: ∀p∈cs,p.2.R.length<=B):Qtl cs:=λp hp=>by
 refine ⟨le_trans (hc p hp) hB,λv hv=>?_⟩;have h1:(p.1,p.2.vs)∈st.keys:=h.perm.mem_iff.1 (mem_map.2 ⟨p,hp,rfl⟩);exact ((hinv.keys _ h1).2.2.2.2 v hv).1
section
variable {w0 w:World} {p d s r x o B:Nat} {P:ByteArray} {st st':Ja} {ds ds':Qz} {lg X9:Jf} {H1 H2:Nat->Prop}
theorem Qt.put {k:Nat} (h:Qt w0 w p d s r x P o st ds lg st' ds' X9 B H1 H2) (hinv:Inv o st) (hfit:Fit k (Zj P st.Zc) ds lg) (hk:k<=3000) (Yo:Pow w) (hp0:0<w0.heap.size) (hQ:(Zj P st.Zc).size<=50) (hnb:st.n<=1000000)
  (a:Option Addr) (cap:Nat) (L:List Qe) (hL: ∀W,Kp H1 w W->Y1 W a L) (hc:L.length<=cap) (hcm:L.length<=1000000) (hB:B<=900000) (Q77:(J8 P o ds st lg (L.map Qe.r)).2.2.1.Zc=st.Zc):
  Calls Tryz.prog 18 #[.pointer (some ⟨s,0,none⟩), .slice a L.length cap] w λe w'=>e= .returned (.int .i64 (J8 P o ds st lg (L.map Qe.r)).1)/\ ∃Hu,
   Qt w0 w' p d s r x P o (J8 P o ds st lg (L.map Qe.r)).2.2.1 (J8 P o ds st lg (L.map Qe.r)).2.1 (J8 P o ds st lg (L.map Qe.r)).2.2.2 st' ds' X9 (B+64) Hu H2/\Je H1 Hu w/\Kp H1 w w':=by
 obtain ⟨l,m,cs,ka,kc,K,F,G,h1,h2,h3,h4,h5⟩:=h.prog
 have hg: ∀k,H1 k->k≠0:=λk hk e=>by
  have:=h.new.2.1 k hk;omega
 have hp:=Qmx h1 hinv rfl hfit hk Yo (λhf=>hg _ (h4 _ (.inr (.inl hf))) rfl) (λhf=>hg _ (h4 _ (.inr (.inr hf))) rfl) hQ hnb a cap L (λW hW=>hL W (hW.mono λi _ hi=>h4 i hi)) hc hcm B hB h2 h3;have Qst:=Q77.symm;obtain ⟨q,hq⟩: ∃q,q=J8 P o ds st lg (L.map Qe.r):=⟨_,rfl⟩;rw [<-hq] at hp Q77 Qst⊢;refine hp.mono ?_;rintro e w' ⟨rfl,cs',Ce,Cf,K',F',G',k1,k2,k3,k4,k5,k6,k7⟩;have Q3d:Kp H1 w w':=k5.mono λi _ hi=>h4 i hi
 have hf: ∀k,Ve s m cs' Ce Cf K' k\/F' k\/G' k->H1 k\/w.heap.size<=k:=by
  rintro k (hk|hk|hk)
  ·exact (k2 k hk).imp (λh=>h4 k (.inl h)) id
  ·exact (k3 k hk).imp (λh=>h4 k (.inr (.inl h))) id
  ·exact (k4 k hk).imp (λh=>h4 k (.inr (.inr h))) id
 have hl: ∀k,Ve s m cs' Ce Cf K' k\/F' k\/G' k->k<w'.heap.size:=by
  rintro k (hk|hk|hk)
  ·exact k1.st.lt k hk
  ·exact k1.at_.disk.lt k hk
  ·exact k1.at_.log.lt k hk
 have hs0:=h.kp.size;rw [Qst] at k1;refine ⟨rfl,_,⟨Q3d.get h.cell h.p1,⟨l,m,cs',Ce,Cf,K',F',G',k1,k6,k7,λ_ h=>h,hl⟩,?_,λk hk hh=>?_,λhh=>?_,h.p2,⟨h.new.1,λk hk=>?_,h.new.2.2⟩,h.kp.trans Q3d λi hi hh=>?_⟩,λk hk=>hf k hk,Q3d⟩
 ·obtain ⟨y,la,lc,cs2,Jhe,Jhf,K2,F2,G2,g1,g2,g3,g4,g5⟩:=h.ref.keep Q3d λk h2 hh=>h.sep k hh h2;exact ⟨y,la,lc,cs2,Jhe,Jhf,K2,F2,G2,g1,λp hp=>by have:=g2 p hp;omega,by omega,g4,g5⟩
 ·rcases hf k hk with h6|h6
  ·exact h.sep k h6 hh
  ·have:=h.ref.lt k hh;omega
 ·rcases hf p hh with h6|h6
  ·exact h.p1 h6
  ·have:=Q7 h.cell;omega
 ·rcases hf k hk with h6|h6
  ·exact h.new.2.1 k h6
  ·omega
 ·have:=h.new.2.1 i hh;omega
theorem Qt.get (h:Qt w0 w p d s r x P o st ds lg st' ds' X9 B H1 H2) (hinv:Inv o st) (hB:B<=1000000) (k:ByteArray) (t1 t2:Int) (ht:t1<=9223372036854775807):
  Calls Tryz.prog 26 #[.pointer (some ⟨s,0,none⟩), .string k,Xl t1 t2] w (Qcy w (Eu st k t1 t2)):=by
 obtain ⟨l,m,cs,ka,kc,K,F,G,h1,h2,h3,h4,h5⟩:=h.prog;exact Qmu h1.st (h1.st.J0d hinv hB h2) k t1 t2 ht
end
def Kv:ByteArray:=⟨#[109]⟩
def Qtg:ByteArray:=⟨#[107]⟩
def Qeh:Qu:=⟨0,1,Qtg,⟨5,0,0,[97],false,0⟩⟩
def Qof:=J8 Kv 0 ⟨1048576,none,[]⟩ Er st0 [Qeh]
theorem Jd2:Qof.1=0:=by kernel_rfl
theorem J3a:Qof.2.2.1.Zc=Er.Zc:=by kernel_rfl
theorem J9m:Eu Qof.2.2.1 Qtg 4 9=(none,0):=by kernel_rfl
theorem J9n:Eu Qof.2.2.1 Qtg 5 0=(some [97],0):=by kernel_rfl
theorem Qpl (P:ByteArray) (room:Nat) (h:room<=1048576):Fit 0 P ⟨room,none,[]⟩ st0:=
 ⟨h,λ_ hp=>absurd hp not_mem_nil,λ_=>zero_le _,zero_le _,λ_ hz=>absurd hz not_mem_nil,zero_le _,zero_le _,λ_ hz=>absurd hz not_mem_nil⟩
theorem Q3v {P:ByteArray} {o:Nat} {s:Qz} {st:Ja} {lg:Jf} {l:List Qu} (h:(J8 P o s st lg l).1=0) (hd:st.dead=false) (hl:l≠[]):V7 st l=0/\(J8 P o s st lg l).2.2.1={Jh o st l with n:=st.n+1}:=by
 unfold J8 at h⊢;rw [if_neg (by rw [hd];decide),if_neg (by rw [List.length_eq_zero_iff];exact hl)] at h⊢;split at h
 ·next hm=>
  rw [if_pos hm];simp only at h⊢
  split at h
  ·next hw=>
   rw [if_pos hw];exact ⟨hm,rfl⟩
  ·next hw=>exact absurd h hw
 ·next hm=>
  simp only at h
  exact absurd (by omega) hm
theorem Qn3:Inv 0 Qof.2.2.1:=by
 obtain ⟨hm,e⟩:=Q3v Jd2 rfl (by simp);unfold Qof;rw [e];exact (Q52 (A9 (by decide)) hm).Qcg _
theorem Jv (w:World) (Yo:Pow w):Calls Tryz.prog 14 #[] w λe w'=>e= .returned (.bool true)/\Kp No w w':=by
 have kc:=λ(w:World) (C:Array Value) (n c:Nat)=>Lib.run_convert_bytes_const (P:=Tryz.prog) w 42 5 C n c Tryz.underlying42 Tryz.underlying5;have Dd:=zz Yo;go_enter Tryz.func14,Tryz.ntmps14
 go_wp2_with fail
 refine (Iu w 1048576 Yo (by decide)).mono ?_;rintro e w1 ⟨p,d,s,r,x,H1,H2,rfl,hP⟩;have c1:w1.cell? ⟨p,1,none⟩=some (.pointer (some ⟨s,0,none⟩)):=hP.at_ zK 1;have lp:=Q7 hP.cell;have HP:=zz hP;obtain ⟨w2,hw2⟩: ∃W,W=w1.alloc (.cells #[.int .u8 97] 5 (1,1+1)):=⟨_,rfl⟩;have k2:Kp No w1 w2:=by rw [hw2];exact zK.alloc _
 have r2:Rd w2 w2.heap.size (some ⟨w1.heap.size,0,none⟩) (u8s [97]):=by rw [hw2];exact Rd.const _ _ _ _ _ rfl
 obtain ⟨w3,hw3⟩: ∃W,W=w2.alloc (.cells #[.int .i64 0, .int .i64 1, .string ⟨#[107]⟩, .int .i64 5, .int .i64 0, .int .i64 0, .slice (some ⟨w1.heap.size,0,none⟩) 1 1, .bool false, .int .i64 0] 46):=⟨_,rfl⟩;have k3:Kp No w2 w3:=by rw [hw3];exact zK.alloc _
 have r3:Rd w3 w3.heap.size (some ⟨w2.heap.size,0,none⟩) ([(⟨Qeh,some ⟨w1.heap.size,0,none⟩,1⟩:Qe)].flatMap recC):=by rw [hw3];exact Rd.const _ _ _ _ _ rfl
 have Jcz:=Rd.kp r2 k3
 have hra: ∀W,Kp H1 w3 W->Y1 W (some ⟨w2.heap.size,0,none⟩) [⟨Qeh,some ⟨w1.heap.size,0,none⟩,1⟩]:=λW hW=>by
  have hlt:=hP.prog.lt;have s2:=k2.size;refine ⟨r3.Q55 hW λ_ k oo hk hz=>?_,λy hy=>?_⟩
  ·injection hk with hk;injection hk with hk;have:=hlt k hz;omega
  ·rw [List.mem_singleton] at hy;subst hy;refine ⟨Jcz.Q55 hW λ_ k oo hk hz=>?_,le_refl _,(show (1:Nat)<=maxLen by decide)⟩;injection hk with hk;injection hk with hk;have:=hlt k hz;omega
 have hpp:=(hP.no k2).no k3;have hput:=hpp.put (k:=0) (A9 (by decide)) (Qpl _ _ (by decide)) (by decide) ((Dd.out.keep hP.kp).keep (k2.Q0 k3)) Dd.out.lt (by show (Zj Kv 0).size<=50;rw [Kj];decide) (by decide) (some ⟨w2.heap.size,0,none⟩) 1 [⟨Qeh,some ⟨w1.heap.size,0,none⟩,1⟩] hra (le_refl _) (show (1:Nat)<=1000000 by decide) (by decide) J3a;have Q3g:Calls Tryz.prog _ #[.pointer (some ⟨s,0,none⟩), .slice (some ⟨w2.heap.size,0,none⟩) 1 1] w3 λe w'=>e= .returned (.int .i64 Qof.1)/\ ∃Hu,Qt w w' p d s r x Kv 0 Qof.2.2.1 Qof.2.1 Qof.2.2.2 Er ⟨1048576,none,[]⟩ st0 (0+64) Hu H2/\Je H1 Hu w3/\Kp H1 w3 w':=hput;rw [Jd2] at Q3g;have Q4a:=zz Q3g;have HW2:=zz hw2;have HW3:=zz hw3;obtain ⟨b1,hb1⟩: ∃b,b=w1.heap.size:=⟨_,rfl⟩;obtain ⟨b2,hb2⟩: ∃b,b=w2.heap.size:=⟨_,rfl⟩;rw [<-hb1] at HW3;rw [<-hb2] at Q4a;have hb2:b2=b1+1:=by rw [hb2,hb1,hw2];simp
 clear hP k2 r2 k3 r3 Jcz hra hpp hput Q3g hw2 hw3 Yo;have HB1:=zz hb1;have HB2:=zz hb2;clear hb1 hb2;go_upto_region 4 with fail
 go_wp2_with fail
 rw [<-HB1.out,<-HW2.out,<-HB2.out,<-HW3.out];refine Q4a.out.mono ?_;rintro e w4 ⟨rfl,Hu,J0q,_,_⟩;have c4:w4.cell? ⟨p,1,none⟩=some (.pointer (some ⟨s,0,none⟩)):=J0q.at_ zK 1;have l4:=Q7 J0q.cell;have hg:=J0q.get Qn3 (by decide) Qtg 4 9 (by decide);rw [J9m] at hg;have HG:=zz hg;have Qz7:=zz J0q;clear J0q hg Q4a c1 lp;go_wp2_with fail
 refine (show Calls Tryz.prog _ _ w4 _ from HG.out).mono ?_;rintro e w5 ⟨rfl,k5⟩;have Qbb:=Qz7.out.no k5;have c5:w5.cell? ⟨p,1,none⟩=some (.pointer (some ⟨s,0,none⟩)):=Qbb.at_ zK 1;have l5:=Q7 Qbb.cell;have hg:=Qbb.get Qn3 (by decide) Qtg 5 0 (by decide);rw [J9n] at hg;have HG2:=zz hg;have Qxf:=zz Qbb;clear Qbb hg HG c4 l4 k5;go_wp2_with fail
 refine (show Calls Tryz.prog _ _ w5 _ from HG2.out).mono ?_;rintro e w6 ⟨a6,c6,rfl,Ib,_,k6⟩;obtain ⟨w7,hw7⟩: ∃W,W=w6.alloc (.cells #[.int .u8 97] 5 (1,1+1)):=⟨_,rfl⟩;have k7:Kp No w6 w7:=by rw [hw7];exact zK.alloc _
 have r7:Rd w7 w7.heap.size (some ⟨w6.heap.size,0,none⟩) (u8s [97]):=by rw [hw7];exact Rd.const _ _ _ _ _ rfl
 have r6:=(Own.rd' Ib).keep k7 λ_ _ x=>x;have HS:=zz (Iw a6 (some ⟨w6.heap.size,0,none⟩) c6 1 _ _ [97] [97] w7 r6 r7 (by decide));have M7:=zz ((Qxf.out.kp.Q0 k6).Q0 k7);have Qo2:=zz hw7;clear r6 r7 k7 k6 Ib HG2 hw7 c5 l5;go_wp2_with fail
 rw [<-Qo2.out];refine HS.out.mono ?_;rintro e w8 ⟨rfl,n,rfl⟩;simp only [decide_true];have HF:=zz (M7.out.drewN n);clear HS M7;go_wp2_with fail
 go_ret
 exact ⟨rfl,HF.out⟩
inductive Q2h:Nat->Ja->Qz->Jf->Prop
 |emp:Q2h 0 Er ⟨1048576,none,[]⟩ st0
 |put {k:Nat} {st:Ja} {ds:Qz} {lg:Jf} (h:Q2h k st ds lg) (r:Kz):Q2h (k+1) (J8 Kv 0 ds st lg (Gp st.of [r])).2.2.1 (J8 Kv 0 ds st lg (Gp st.of [r])).2.1 (J8 Kv 0 ds st lg (Gp st.of [r])).2.2.2
theorem Q3k (o:Nat): ∀(L:List Qu) (st:Ja),(Jh o st L).mm=st.mm/\(Jh o st L).mc=st.mc
 |[],_=>⟨rfl,rfl⟩
 |r::L,st=>Q3k o L (E7 o st r)
theorem Q8p {P:ByteArray} {o:Nat} {s:Qz} {st:Ja} {lg:Jf} (l:List Qu):(J8 P o s st lg l).2.2.1.mm=st.mm/\(J8 P o s st lg l).2.2.1.mc=st.mc:=by
 unfold J8;split
 ·exact ⟨rfl,rfl⟩
 ·split
  ·exact ⟨rfl,rfl⟩
  ·split
   ·simp only
    split
    ·exact Q3k o l st
    ·exact ⟨rfl,rfl⟩
   ·exact ⟨rfl,rfl⟩
theorem Q3j (o:Nat): ∀(L:List Qu) (st:Ja),(Jh o st L).kept.length<=st.kept.length+L.length
 |[],_=>le_refl _
 |r::L,st=>by
  have h1:=Q3j o L (E7 o st r)
  have h2:(E7 o st r).kept.length<=st.kept.length+1:=by
   unfold E7;simp only
   split
   ·rw [List.length_append];exact le_refl _
   ·exact Nat.le_succ _
  rw [length_cons];exact le_trans h1 (by omega)
theorem Qmm {P:ByteArray} {o:Nat} {s:Qz} {st:Ja} {lg:Jf} (l:List Qu):(J8 P o s st lg l).2.2.1.kept.length<=st.kept.length+l.length:=by
 unfold J8;split
 ·exact le_add_right _ _
 ·split
  ·exact le_add_right _ _
  ·split
   ·simp only
    split
    ·exact Q3j o l st
    ·exact le_add_right _ _
   ·exact le_add_right _ _
structure Jd7 (k:Nat) (st:Ja) (ds:Qz) (lg:Jf):Prop where
 inv:Inv 0 st
 hold:Bu k Kv ds st lg
 Zc:st.Zc=0
 mark:st.mm=0/\st.mc=0
 keys:st.keys.length<=k
 many:Z7 st<=k
 kept:st.kept.length<=k
theorem Q4l {k:Nat} {st:Ja} {ds:Qz} {lg:Jf} (h:Q2h k st ds lg) (hk:k<=10000):Jd7 k st ds lg:=by
 induction h with
 |emp=>exact ⟨A9 (by decide),Ql2 _ _ (by decide),rfl,⟨rfl,rfl⟩,le_refl _,le_refl _,le_refl _⟩
 | @put k st ds lg h r ih=>
  obtain ⟨h1,h2,h3,h4,h5,h6,h0⟩:=ih (by omega);have h7:=Qqv (P:=Kv) (o:=0) (s:=ds) (lg:=lg) h1.sorted (Gp st.of [r]);have h8:(Gp st.of [r]).length=1:=Oe [r] _;rw [h8] at h7;refine ⟨Qqu h1 _,Ql3 h2 (by omega) _ _,by rw [Ip];exact h3,?_,le_trans h7.1 (by omega),le_trans h7.2 (by omega),le_trans (Qmm _) (by rw [h8];omega)⟩;rw [(Q8p _).1,(Q8p _).2];exact h4
theorem Qm9 {o:Nat} {st:Ja} (h:Inv o st):Q2l 0 st.of:=by
 have hd: ∀i,0<=(Qn st.of i).seq/\(Qn st.of i).seq<=1099511627776/\Za (Qn st.of i).m (Qn st.of i).c=true:=λi=>by
  unfold Qn;rw [List.getD_eq_getElem?_getD];cases hg:st.of[i]? with
  |none=>exact ⟨by decide,by decide,by decide⟩
  |some d=>exact h.done d (List.mem_of_getElem? hg)
 refine ⟨h.Qoe,λi=>⟨(hd i).1,(hd i).2.1⟩,λi=>?_,λi=>?_⟩
 ·obtain ⟨h1,h2,h3,h4⟩:=Zw.1 (hd i).2.2;omega
 ·obtain ⟨h1,h2,h3,h4⟩:=Zw.1 (hd i).2.2;omega
def J04 (w:World) (s r y:Nat) (P Q:ByteArray) (o:Nat) (st:Ja) (la:Option Addr) (lc:Nat) (cs:Zn) (ka:Option Addr) (kc:Nat) (K:List Qe) (F G:Nat->Prop) (q:Int×Qz×Jf) (w':World):Prop:=
 ∃F' G',Vo w' s r y P o (Cv st q.1) la lc cs ka kc K/\Ms w' r y Q q.2.1 q.2.2 F' G'/\Je F F' w/\Je G G' w/\Kp (λk=>k=s\/F k\/G k) w w'
section
variable {w:World} {s r y o:Nat} {P Q:ByteArray} {st:Ja} {la:Option Addr} {lc:Nat} {cs:Zn} {ka:Option Addr} {kc:Nat} {K:List Qe} {ds:Qz} {lg:Jf} {F G:Nat->Prop} {k:Nat}
theorem Vo.Qcg (h:Vo w s r y P o st la lc cs ka kc K) (n:Nat):Vo (w.setCell ⟨s,24,none⟩ (.int .i64 (n:Int))) s r y P o {st with n:=n} la lc cs ka kc K:=
 h.turn ((Kp.refl (Mer.One s) w).setCell (p:=⟨s,24,none⟩) (.inl (show Mer.One s s from rfl)) _) (by have:=Ql h.cell 24 (.int .i64 (n:Int));simpa [Ue] using this) rfl rfl
theorem Vo.Ha (h:Vo w s r y P o st la lc cs ka kc K) (b:Bool):Vo (w.setCell ⟨s,25,none⟩ (.bool b)) s r y P o {st with dead:=b} la lc cs ka kc K:=
 h.turn ((Kp.refl (Mer.One s) w).setCell (p:=⟨s,25,none⟩) (.inl (show Mer.One s s from rfl)) _) (by have:=Ql h.cell 25 (.bool b);simpa [Ue] using this) rfl rfl
theorem Q2t (h:Vo w s r y P o st la lc cs ka kc K) (hW:Ms w r y Q ds lg F G) (Qi4: ∀i,Zg s la lc cs ka kc K i-> ¬F i) (Qq9: ∀i,Zg s la lc cs ka kc K i-> ¬G i) (hfit:Fit k Q ds lg) (hwh:Whole Q ds lg) (hk:k<=3000) (hQ:Q.size<=50) (hnb:st.n<=1000000)
  (pa:Option Addr) (pc:Nat) (p:List UInt8) (hp: ∀W,Kp (V2 F G) w W->Rd W W.heap.size pa (u8s p)) (hpl:p.length<=1000000000):
  Calls Tryz.prog 68 #[.pointer (some ⟨s,0,none⟩), .slice pa p.length pc] w λe w'=>e= .returned (.int .i64 (J7 Q ds lg p).1)/\J04 w s r y P Q o st la lc cs ka kc K F G (J7 Q ds lg p) w':=by
 have hap:=Q9l w r y Q ds lg F G hW hfit.hne hfit.hsl (by have:=hfit.Qi;omega) (λz hz=>by have:=hfit.no z hz;have:=hfit.Qi;omega) (by have:=hfit.Qk;omega) hQ hwh.tr pa pc p hp hpl;have hfa:=Q4m hfit (by omega) p;have c3:w.cell? ⟨s,3,none⟩=some (.pointer (some ⟨y,0,none⟩)):=h.at_ zK 3;have hsl:=Q7 h.cell;have H:=zz h;have Qf1:=zz (And.intro Qi4 Qq9);have Kx:=zz hap;have Qhx:=zz hfa;have hw5:=zz (Ei st.n hnb);obtain ⟨pn,hpn⟩: ∃pn,pn=p.length:=⟨_,rfl⟩;rw [<-hpn] at Kx⊢;obtain ⟨q,hq⟩: ∃q,q=Jz Q ds lg p:=⟨_,rfl⟩;rw [<-hq] at Kx Qhx;unfold Qes at Kx;have hS: ∀i,Zg s la lc cs ka kc K i-> ¬V2 F G i:=λi hi hb=>hb.elim (Qi4 i hi) (Qq9 i hi);have HS:=zz hS;by_cases hc:q.1.2=0
 ·have hwr:=Q26 (hq▸hc);rw [<-hq] at hwr;rw [hc] at Kx;have De:=zz hwr;clear h hW Qi4 Qq9 hfit hwh hp hap hfa hpn hq hS hpl hnb hc hwr;go_enter Tryz.func68,Tryz.ntmps68
  go_wp2_with fail
  refine Kx.out.mono ?_;rintro e w2 ⟨rfl,F2,G2,hW2,hF2,hG2,k2⟩;have h2:=H.out.keep k2 HS.out;have c3:w2.cell? ⟨s,3,none⟩=some (.pointer (some ⟨y,0,none⟩)):=h2.at_ zK 3;have hsl2:=Q7 h2.cell;have hsy:=Q44 w2 r y Q q.2.1 q.2.2 F2 G2 hW2 Qhx.out.hne Qhx.out.hsl (by have:=Qhx.out.Qi;omega) (λz hz=>by have:=Qhx.out.no z hz;have:=Qhx.out.Qi;omega) hQ;unfold Qal at hsy;rw [<-De.out] at hsy
  have Qlc: ∀i,Zg s la lc cs ka kc K i-> ¬F2 i:=λi hi hf=>by
   rcases hF2 i hf with h1|h1
   ·exact Qf1.out.1 i hi h1
   ·have:=H.out.lt i hi;omega
  have Qld: ∀i,Zg s la lc cs ka kc K i-> ¬G2 i:=λi hi hf=>by
   rcases hG2 i hf with h1|h1
   ·exact Qf1.out.2 i hi h1
   ·have:=H.out.lt i hi;omega
  obtain ⟨t,ht⟩: ∃t,t=J7 Q ds lg p:=⟨_,rfl⟩;rw [<-ht] at hsy;have Q6g:=zz hsy;have H2:=zz h2;have HF2:=zz (And.intro hF2 (And.intro hG2 k2));have HS2:=zz (show ∀i,Zg s la lc cs ka kc K i-> ¬V2 F2 G2 i from λi hi hb=>hb.elim (Qlc i hi) (Qld i hi));have HR:=zz ht;clear hW2 hF2 hG2 k2 h2 hsy Qlc Qld ht;go_wp2_with fail
  refine Q6g.out.mono ?_;rintro e w3 ⟨rfl,F3,G3,hW3,hF3,hG3,k3⟩;have h3:=H2.out.keep k3 HS2.out;have Qw3:=Q7 h3.cell;have f24:=Qh h3.cell 24;have f25:=Qh h3.cell 25;have c24:w3.cell? ⟨s,24,none⟩=some (.int .i64 (st.n:Int)):=h3.at_ zK 24;have c25:w3.cell? ⟨s,25,none⟩=some (.bool st.dead):=h3.at_ zK 25;have hF:Je F F3 w:=HF2.out.1.trans hF3 HF2.out.2.2.size;have hG:Je G G3 w:=HF2.out.2.1.trans hG3 HF2.out.2.2.size
  have Qko:Kp (λi=>i=s\/F i\/G i) w w3:=(HF2.out.2.2.mono λi _ hb=> .inr hb).trans k3 λi hi hb=>by
   rcases hb with hb|hb
   ·rcases HF2.out.1 i hb with h1|h1
    ·exact .inr (.inl h1)
    ·omega
   ·rcases HF2.out.2.1 i hb with h1|h1
    ·exact .inr (.inr h1)
    ·omega
  have Q0i: ∀i,F3 i\/G3 i->i≠s:=λi hi e=>by
   have J8i:=Q7 H.out.cell;rcases hi with hi|hi
   ·rcases hF i hi with h1|h1
    ·exact Qf1.out.1 s (.inl rfl) (e▸h1)
    ·omega
   ·rcases hG i hi with h1|h1
    ·exact Qf1.out.2 s (.inl rfl) (e▸h1)
    ·omega
  have H3:=zz h3;have HX:=zz (And.intro hW3 (And.intro hF (And.intro hG (And.intro Qko Q0i))));clear hW3 hF3 hG3 k3 h3 hF hG Qko Q0i Q6g c3;by_cases hrc:t.1=0
  ·have e1:(t.1==0)=true:=by rw [beq_iff_eq];exact hrc
   have Q7c:=hw5.out;have Q9z:=zz hrc;clear hrc;rw [Q9z.out];go_wp2_with fail
   go_ret
   refine ⟨by rw [<-HR.out,Q9z.out];rfl,F3,G3,?_,?_,HX.out.2.1,HX.out.2.2.1,?_⟩
   ·rw [<-HR.out,Ho st Q9z.out];exact H3.out.Qcg (st.n+1)
   ·rw [<-HR.out]
    exact
     ⟨Mr.keep HX.out.1.disk ((Kp.refl (Mer.One s) w3).setCell (p:=⟨s,24,none⟩) (.inl (show Mer.One s s from rfl)) _) λi hi e=>HX.out.2.2.2.2 i (.inl hi) e,X5.keep HX.out.1.log ((Kp.refl (Mer.One s) w3).setCell (p:=⟨s,24,none⟩) (.inl (show Mer.One s s from rfl)) _) λi hi e=>HX.out.2.2.2.2 i (.inr hi) e,HX.out.1.sep⟩
   ·exact HX.out.2.2.2.1.setCell (p:=⟨s,24,none⟩) (.inl (.inl rfl)) _
  ·have e1:(t.1==0)=false:=by rw [beq_eq_false_iff_ne];exact hrc
   have e2:(t.1 !=0)=true:=by rw [bne,e1];rfl
   have Q9z:=zz hrc;clear hrc;go_wp2_with fail
   go_ret
   refine ⟨by rw [<-HR.out];rfl,F3,G3,?_,?_,HX.out.2.1,HX.out.2.2.1,?_⟩
   ·rw [<-HR.out,Kr st Q9z.out];exact H3.out.Ha true
   ·rw [<-HR.out]
    exact
     ⟨Mr.keep HX.out.1.disk ((Kp.refl (Mer.One s) w3).setCell (p:=⟨s,25,none⟩) (.inl (show Mer.One s s from rfl)) _) λi hi e=>HX.out.2.2.2.2 i (.inl hi) e,X5.keep HX.out.1.log ((Kp.refl (Mer.One s) w3).setCell (p:=⟨s,25,none⟩) (.inl (show Mer.One s s from rfl)) _) λi hi e=>HX.out.2.2.2.2 i (.inr hi) e,HX.out.1.sep⟩
   ·exact HX.out.2.2.2.1.setCell (p:=⟨s,25,none⟩) (.inl (.inl rfl)) _
 ·have hwr:=Q25 (hq▸hc);rw [<-hq] at hwr;have De:=zz hwr;obtain ⟨z,hz⟩: ∃z,z=q.1.2:=⟨_,rfl⟩;rw [<-hz] at hc Kx;have HZ:=zz (And.intro hz hc);have e1:(z==0)=false:=by rw [beq_eq_false_iff_ne];exact hc
  have e2:(z !=0)=true:=by rw [bne,e1];rfl
  clear h hW Qi4 Qq9 hfit hwh hp hap hfa hpn hq hS hpl hnb hc hwr hz;go_enter Tryz.func68,Tryz.ntmps68
  go_wp2_with fail
  refine Kx.out.mono ?_;rintro e w3 ⟨rfl,F3,G3,hW3,hF3,hG3,k3⟩;have h3:=H.out.keep k3 HS.out;have Qw3:=Q7 h3.cell;have f25:=Qh h3.cell 25;have c25:w3.cell? ⟨s,25,none⟩=some (.bool st.dead):=h3.at_ zK 25
  have Q0i: ∀i,F3 i\/G3 i->i≠s:=λi hi e=>by
   have J8i:=Q7 H.out.cell;rcases hi with hi|hi
   ·rcases hF3 i hi with h1|h1
    ·exact Qf1.out.1 s (.inl rfl) (e▸h1)
    ·omega
   ·rcases hG3 i hi with h1|h1
    ·exact Qf1.out.2 s (.inl rfl) (e▸h1)
    ·omega
  have H3:=zz h3;have HX:=zz (And.intro hW3 (And.intro hF3 (And.intro hG3 (And.intro k3 Q0i))));clear hW3 hF3 hG3 k3 h3 Q0i c3 Kx;go_wp2_with fail
  go_ret
  refine ⟨by rw [De.out,<-HZ.out.1];rfl,F3,G3,?_,?_,HX.out.2.1,HX.out.2.2.1,?_⟩
  ·rw [De.out,<-HZ.out.1,Kr st HZ.out.2];exact H3.out.Ha true
  ·rw [De.out]
   exact
    ⟨Mr.keep HX.out.1.disk ((Kp.refl (Mer.One s) w3).setCell (p:=⟨s,25,none⟩) (.inl (show Mer.One s s from rfl)) _) λi hi e=>HX.out.2.2.2.2 i (.inl hi) e,X5.keep HX.out.1.log ((Kp.refl (Mer.One s) w3).setCell (p:=⟨s,25,none⟩) (.inl (show Mer.One s s from rfl)) _) λi hi e=>HX.out.2.2.2.2 i (.inr hi) e,HX.out.1.sep⟩
  ·exact (HX.out.2.2.2.1.mono λi _ hb=> .inr hb).setCell (p:=⟨s,25,none⟩) (.inl (.inl rfl)) _
end
def Q30 (w:World) (s r y:Nat) (P Q:ByteArray) (o:Nat) (la:Option Addr) (lc:Nat) (cs:Zn) (ka:Option Addr) (kc:Nat) (K:List Qe) (F G:Nat->Prop) (B:Nat) (st':Ja) (ds':Qz) (X9:Jf) (w':World):Prop:=
 ∃la' Qlz cs' Ce Cf K' F' G',D7 w' s r y P Q o st' la' Qlz cs' Ce Cf K' ds' X9 F' G'/\Je (Zg s la lc cs ka kc K) (Zg s la' Qlz cs' Ce Cf K') w/\Je F F' w/\Je G G' w/\Kp (λi=>Zg s la lc cs ka kc K i\/F i\/G i) w w'/\(∀p∈cs',p.2.R.length<=B)/\K'.length<=B/\cs'.length<=B
section
variable {w w':World} {s r y o:Nat} {P Q:ByteArray} {st:Ja} {la:Option Addr} {lc:Nat} {cs:Zn} {ka:Option Addr} {kc:Nat} {K:List Qe} {ds:Qz} {lg:Jf} {F G:Nat->Prop}
theorem Ms.Qlm {S:Nat->Prop} (h:Ms w r y Q ds lg F G) (hk:Kp S w w') (hF: ∀k,F k-> ¬S k) (hG: ∀k,G k-> ¬S k):Ms w' r y Q ds lg F G:=⟨h.disk.keep hk hF,h.log.keep hk hG,h.sep⟩
theorem D7.same (h:D7 w s r y P Q o st la lc cs ka kc K ds lg F G) (hk:Kp No w w') {B:Nat} (hc: ∀p∈cs,p.2.R.length<=B) (hK:K.length<=B) (hn:cs.length<=B):Q30 w s r y P Q o la lc cs ka kc K F G B st ds lg w':=
 ⟨la,lc,cs,ka,kc,K,F,G,h.Q9 hk,λ_ h=> .inl h,λ_ h=> .inl h,λ_ h=> .inl h,Kp.Qx hk,hc,hK,hn⟩
theorem D7.wrote {w8 w9:World} (h:D7 w s r y P Q o st la lc cs ka kc K ds lg F G) (hk:Kp No w w8) {q:Int×Qz×Jf} (hW:J04 w8 s r y P Q o st la lc cs ka kc K F G q w9):
  ∃F' G',D7 w9 s r y P Q o (Cv st q.1) la lc cs ka kc K q.2.1 q.2.2 F' G'/\Je F F' w/\Je G G' w/\Kp (λi=>Zg s la lc cs ka kc K i\/F i\/G i) w w9:=by
 obtain ⟨F',G',h1,h2,hF,hG,hk9⟩:=hW;have h8:=hk.size;have hlt:=h.st.lt;refine ⟨F',G',⟨h1,h2,λi hi hf=>?_,λi hi hf=>?_⟩,λi hi=>?_,λi hi=>?_,(Kp.Qx hk).trans hk9 λi _ hi=>?_⟩
 ·rcases hF i hf with h3|h3
  ·exact h.sF i hi h3
  ·have:=hlt i hi;omega
 ·rcases hG i hf with h3|h3
  ·exact h.sG i hi h3
  ·have:=hlt i hi;omega
 ·exact (hF i hi).imp id λh3=>by omega
 ·exact (hG i hi).imp id λh3=>by omega
 ·rcases hi with hi|hi
  ·exact .inl (.inl hi)
  ·exact .inr hi
theorem Mr.lt' (h:Ms w r y Q ds lg F G):(∀k,F k->k<w.heap.size)/\ ∀k,G k->k<w.heap.size:=by
 refine ⟨h.disk.lt,?_⟩;obtain ⟨sv,ev,E,hC,hE,Q0c,Ku⟩:=h.log;exact Ku
theorem D7.laid {w9 w':World} {F' G':Nat->Prop} {Qwr:Ja} {ds':Qz} {X9:Jf} (h:D7 w9 s r y P Q o Qwr la lc cs ka kc K ds' X9 F' G') (hF:Je F F' w) (hG:Je G G' w) (hk:Kp (λi=>Zg s la lc cs ka kc K i\/F i\/G i) w w9) {L:List Qu} {B n:Nat} (hn:n<=64) (hJ:Qf3 w9 s r y P o Qwr la lc cs ka kc K L B n w'):
  Q30 w s r y P Q o la lc cs ka kc K F G (B+64) (Jh o Qwr (L.take n)) ds' X9 w':=by
 obtain ⟨la',Qlz,cs',Ce,Cf,K',h1,h2,h3,h4,h5,h6'⟩:=hJ;obtain ⟨Bx,Ku⟩:=Mr.lt' h.at_;have hsz:=hk.size;refine ⟨la',Qlz,cs',Ce,Cf,K',F',G',⟨h1,h.at_.Qlm h3 (λk hf hs=>h.sF k hs hf) (λk hf hs=>h.sG k hs hf),λi hi hf=>?_,λi hi hf=>?_⟩,λi hi=>(h2 i hi).imp id λh6=>by omega,hF,hG,hk.trans h3 λi hi hs=> .inl hs,λp hp=>by have:=h4 p hp;omega,by omega,by omega⟩
 ·rcases h2 i hi with h6|h6
  ·exact h.sF i h6 hf
  ·have:=Bx i hf;omega
 ·rcases h2 i hi with h6|h6
  ·exact h.sG i h6 hf
  ·have:=Ku i hf;omega
theorem Qcv {k:Nat} (h:D7 w s r y P Q o st la lc cs ka kc K ds lg F G) (hinv:Inv o st) (Qkc:Q=Zj P st.Zc) (hfit:Fit k Q ds lg) (hwh:st.dead=false->Whole Q ds lg) (hk:k<=3000) (hQ:Q.size<=50) (hnb:st.n<=1000000)
  (a:Option Addr) (cap:Nat) (L:List Qe) (hL: ∀W,Kp (λi=>Zg s la lc cs ka kc K i\/F i\/G i) w W->Y1 W a L) (hc:L.length<=cap) (hcm:L.length<=1000000) (B:Nat) (hB:B<=900000) (hcB: ∀p∈cs,p.2.R.length<=B) (hkB:K.length<=B) (hcn:cs.length<=B):
  Calls Tryz.prog 21 #[.pointer (some ⟨s,0,none⟩), .slice a L.length cap] w λe w'=>e= .returned (.int .i64 (J8 P o ds st lg (L.map Qe.r)).1)/\
   Q30 w s r y P Q o la lc cs ka kc K F G (B+64) (J8 P o ds st lg (L.map Qe.r)).2.2.1 (J8 P o ds st lg (L.map Qe.r)).2.1 (J8 P o ds st lg (L.map Qe.r)).2.2.2 w':=by
 obtain ⟨n,Xw⟩: ∃n,n=L.length:=⟨_,rfl⟩;obtain ⟨q,hq⟩: ∃q,q=J8 P o ds st lg (L.map Qe.r):=⟨_,rfl⟩;have hsame: ∀W,Kp No w W->Q30 w s r y P Q o la lc cs ka kc K F G (B+64) st ds lg W:=λW hW=>h.same hW (λp hp=>by have:=hcB p hp;omega) (by omega) (by omega);have hL0:=hL w zK;have c25:w.cell? ⟨s,25,none⟩=some (.bool st.dead):=h.st.at_ zK 25;have sl:=Q7 h.st.cell;rw [<-hq];unfold J8 at hq;rw [<-Xw];by_cases hd:st.dead=true
 ·rw [if_pos hd] at hq;rw [hd] at c25;have HS:=zz hsame;subst hq;clear h hinv hfit hwh hL hsame hcB hkB hcn hd Xw hL0 Qkc;go_enter Tryz.func21,Tryz.ntmps21
  go_wp2_with fail
  go_ret
  exact ⟨rfl,HS.out _ zK⟩
 have hd':st.dead=false:=by simpa using hd
 rw [if_neg hd] at hq;rw [hd'] at c25;rw [length_map,<-Xw] at hq;have hmay:=Qnn h.st hinv.Jcx a cap L hL0 hc hcm;rw [<-Xw] at hmay;obtain ⟨my,Qbo⟩: ∃my,my=V7 st (L.map Qe.r):=⟨_,rfl⟩;rw [<-Qbo] at hmay hq;by_cases hn0:n=0
 ·rw [if_pos hn0] at hq
  have hm0:my=0:=by
   have hLn:L=[]:=by rw [<-List.length_eq_zero_iff,<-Xw];exact hn0
   rw [Qbo,hLn];rfl
  have HS:=zz hsame;have HM:=zz hmay;have z1:((my:Int)==0)=true:=by rw [hm0];rfl
  have z2:(my==0)=true:=by rw [hm0];rfl
  have z3:((my:Int) !=0)=false:=by rw [bne,z1];rfl
  have z4:(my !=0)=false:=by rw [bne,z2];rfl
  have z5:((n:Int)==0)=true:=by rw [hn0];rfl
  have z6:(n==0)=true:=by rw [hn0];rfl
  have Qoo:=zz hm0;subst hq;clear h hinv hfit hwh hL hsame hcB hkB hcn hd hd' Xw hL0 Qkc hmay Qbo hm0 hn0;go_enter Tryz.func21,Tryz.ntmps21
  go_wp2_with fail
  refine HM.out.mono ?_;rintro e w2 ⟨rfl,k2⟩;have J9:=zz k2;clear k2;go_wp2_with fail
  go_ret
  exact ⟨by rw [Qoo.out];rfl,HS.out _ J9.out⟩
 rw [if_neg hn0] at hq;have hn1:((n:Int)==0)=false:=by rw [beq_eq_false_iff_ne];omega
 have hn1':(n==0)=false:=by rw [beq_eq_false_iff_ne];exact hn0
 by_cases hm0:my=0
 ·rw [if_pos hm0] at hq;have z1:((my:Int)==0)=true:=by rw [hm0];rfl
  have z2:(my==0)=true:=by rw [hm0];rfl
  have z3:((my:Int) !=0)=false:=by rw [bne,z1];rfl
  have z4:(my !=0)=false:=by rw [bne,z2];rfl
  obtain ⟨h64,hall,hg⟩:=Q8b (Qbo.symm.trans hm0);have Ew: ∀x∈L,Z4 x.r=true:=λx hx=>hall _ (mem_map.2 ⟨x,hx,rfl⟩);have hlen:=Od hall (by rw [length_map];rwa [length_map] at h64);rw [length_map] at h64
  have Qvn: ∀W,Kp No w W->Calls Tryz.prog 67 #[.slice a n cap] W (Qa5 W (Fl (L.map Qe.r))):=λW hW=>by
   rw [Xw];exact Qhm W a cap L (hL0.kp hW) Ew h64
  obtain ⟨ll,hll⟩: ∃ll,ll=Fl (L.map Qe.r):=⟨_,rfl⟩;rw [<-hll] at Qvn hlen;obtain ⟨X,hX⟩: ∃X,X=Qq 1++ll:=⟨_,rfl⟩;obtain ⟨wq,hwq⟩: ∃wq,wq=J7 Q ds lg X:=⟨_,rfl⟩
  have hq':q=if wq.1=0 then (0,wq.2.1,{Jh o st (L.map Qe.r) with n:=st.n+1},wq.2.2) else (wq.1,wq.2.1,{st with dead:=true},wq.2.2):=by
   rw [hq,<-Qkc,hwq,hX,hll];rfl
  have HM:=zz hmay;have Qty:=zz Qvn;have HH:=zz h;have HI:=zz hinv;have Qnz:=zz hL;have K7:=zz (And.intro hfit (hwh hd'));have Oz:=zz (And.intro hcB (And.intro hkB hcn));have J63:=zz hwq;have HQ:=zz hq';have HG:=zz (And.intro hall (And.intro Ew hg));have HN:=zz Xw;have HX:=zz hX;clear hX h hinv hfit hwh hL hsame hcB hkB hcn hd hd' hL0 Qkc hmay Qbo hq Qvn hll hwq hq' hall Ew hg Xw hm0;go_enter Tryz.func21,Tryz.ntmps21
  go_wp2_with fail
  refine HM.out.mono ?_;rintro e w2 ⟨rfl,k2⟩;have J9:=zz k2;have HL2:=zz (Qty.out w2 k2);clear k2 Qty HM;go_wp2_with fail
  refine HL2.out.mono ?_;rintro e w3 ⟨a3,c3,rfl,hown3,hfr3,k3⟩;have Qyy:=zz hown3;have Zk:=zz (J9.out.Q0 k3);have Qop:=zz (Oi 1 (by decide) w3);obtain ⟨ln,hln⟩: ∃l,l=ll.length:=⟨_,rfl⟩;have Em:=zz (And.intro hln hlen);rw [<-hln];clear hown3 hfr3 k3 HL2 hln hlen c25 sl;go_wp2_with fail
  refine Qop.out.mono ?_;rintro e w4 ⟨a4,c4,rfl,hown4,J18,k4⟩;have Qq6:(Qq 1).length<=9:=J4 (n:=1) (by decide);obtain ⟨a5,c5,w5,h1,h2,h3,h4⟩:=Yb w3 w4 (.slice a4 (Qq 1).length c4) (Qq 1) ll hown4 J18 k4 a3 c3 (Rd.kp (Own.rd' Qyy.out) k4) (by have:=Em.out.2;omega);rw [<-HX.out] at h1 h2 h3;rw [<-Em.out.1] at h1
  have Qxw:X.length<=1000000:=by
   rw [HX.out,List.length_append];have:=Em.out.2;omega
  obtain ⟨l1,hl1⟩: ∃l,l=(Qq 1).length:=⟨_,rfl⟩;rw [<-hl1] at h1⊢;have Qzd:=zz h1;have J8t:=Zk.out.Q0 h4;have h5:=HH.out.Q9 J8t;obtain ⟨Bx,Ku⟩:=Mr.lt' HH.out.at_
  have hwr:=Q2t h5.st h5.at_ h5.sF h5.sG K7.out.1 K7.out.2 hk hQ hnb a5 c5 X (λW hW=>Own.rd' (h2.keep hW λg hg hb=>by
   have e1:=h3 g hg;have e2:=Zk.out.size;rcases hb with hb|hb
   ·have:=Bx g hb;omega
   ·have:=Ku g hb;omega)) (by omega)
  rw [<-J63.out] at hwr;have De:=zz hwr;have Vb:=zz J8t;have hd25:=h5.st.at_ zK 25;have hl5:=Q7 h5.st.cell;obtain ⟨lX,Jc4⟩: ∃l,l=X.length:=⟨_,rfl⟩;rw [<-Jc4] at Qzd De;clear hwr h5 J8t hown4 J18 k4 Qq6 h1 h2 h3 h4 Qxw hl1 Bx Ku Zk Qyy Jc4 hd25 hl5 Qop;obtain ⟨Qhd,N2⟩: ∃z,z=wq.1:=⟨_,rfl⟩;rw [<-N2] at De;by_cases hw0:Qhd=0
  ·have b1:(Qhd==0)=true:=by rw [beq_iff_eq];exact hw0
   have b2:(Qhd !=0)=false:=by rw [bne,b1];rfl
   have Qbt:q=(0,wq.2.1,{Jh o st (L.map Qe.r) with n:=st.n+1},wq.2.2):=by rw [HQ.out,if_pos (by rw [<-N2];exact hw0)]
   have Qu5:=zz Qbt;have HW0:=zz (show wq.1=0 by rw [<-N2];exact hw0);have HW1:=zz hw0;clear Qbt N2 hw0;go_wp2_with (at_builtin;refine wpList_append_run rfl rfl rfl rfl Qzd.out ?_;clear Qzd)
   refine De.out.mono ?_;rintro e w9 ⟨rfl,Q2d⟩;obtain ⟨F',G',h9,Qb8,Qk9,hk9⟩:=HH.out.wrote Vb.out Q2d;rw [Ho st HW0.out] at h9;have hla:=Q9r h9.st (HI.out.Qcg _) a cap L (λW hW=>Qnz.out W (hk9.trans hW λi _ hs=> .inl hs)) hc HG.out.1 HG.out.2.2 h64 B hB Oz.out.1 Oz.out.2.1 Oz.out.2.2;have H9:=zz h9;have Qts:=zz (And.intro Qb8 (And.intro Qk9 hk9));rw [<-HN.out] at hla;have Qyn:=zz hla;clear h9 Qb8 Qk9 hk9 hla Q2d De;go_wp2_with fail
   refine Qyn.out.mono ?_;rintro e wa ⟨rfl,hJ⟩;have hT:=H9.out.laid Qts.out.1 Qts.out.2.1 Qts.out.2.2 (by rw [HN.out];exact h64) hJ;have htk:(L.map Qe.r).take n=L.map Qe.r:=List.take_of_length_le (by rw [length_map,HN.out];exact le_refl _);rw [htk,Q58] at hT;have HT:=zz hT;clear hT htk hJ Qyn;go_wp2_with fail
   go_ret
   rw [Qu5.out];exact ⟨by rw [HW1.out];rfl,HT.out⟩
  ·have b1:(Qhd==0)=false:=by rw [beq_eq_false_iff_ne];exact hw0
   have b2:(Qhd !=0)=true:=by rw [bne,b1];rfl
   have Qbt:q=(Qhd,wq.2.1,{st with dead:=true},wq.2.2):=by rw [HQ.out,if_neg (by rw [<-N2];exact hw0),N2]
   have Qu5:=zz Qbt;have HW0:=zz (show wq.1≠0 by rw [<-N2];exact hw0);clear Qbt N2 hw0;go_wp2_with (at_builtin;refine wpList_append_run rfl rfl rfl rfl Qzd.out ?_;clear Qzd)
   refine De.out.mono ?_;rintro e w9 ⟨rfl,Q2d⟩;obtain ⟨F',G',h9,Qb8,Qk9,hk9⟩:=HH.out.wrote Vb.out Q2d;rw [Kr st HW0.out] at h9;have HT:=zz (show Q30 w s r y P Q o la lc cs ka kc K F G (B+64) {st with dead:=true} wq.2.1 wq.2.2 w9 from ⟨la,lc,cs,ka,kc,K,F',G',h9,λ_ h=> .inl h,Qb8,Qk9,hk9,λp hp=>by have:=Oz.out.1 p hp;omega,by have:=Oz.out.2.1;omega,by have:=Oz.out.2.2;omega⟩);clear h9 Qb8 Qk9 hk9 Q2d De;go_wp2_with fail
   go_ret
   rw [Qu5.out];exact ⟨rfl,HT.out⟩
 ·rw [if_neg hm0] at hq;have HS:=zz hsame;have HM:=zz hmay;have hm1:((my:Int)==0)=false:=by rw [beq_eq_false_iff_ne];omega
  have hm2:((my:Int) !=0)=true:=by rw [bne,hm1];rfl
  have Qvq:(my==0)=false:=by rw [beq_eq_false_iff_ne];exact hm0
  have hm4:(my !=0)=true:=by rw [bne,Qvq];rfl
  have J4o: ¬((my:Int)=0):=by omega
  subst hq;clear h hinv hfit hwh hL hsame hcB hkB hcn hd hd' Xw hL0 Qkc hmay Qbo;go_enter Tryz.func21,Tryz.ntmps21
  go_wp2_with fail
  refine HM.out.mono ?_;rintro e w2 ⟨rfl,k2⟩;have J9:=zz k2;clear k2;go_wp2_with fail
  go_ret
  exact ⟨rfl,HS.out _ J9.out⟩
end
theorem Qgl {P:ByteArray} {o:Nat} {s:Qz} {st:Ja} {lg:Jf} {l:List Qu} (hd:st.dead=false) (hl:l≠[]) (hm:V7 st l≠0):J8 P o s st lg l=((V7 st l:Int),s,st,lg):=by
 unfold J8;rw [if_neg (by rw [hd];decide),if_neg (by rw [List.length_eq_zero_iff];exact hl),if_neg hm]
section
variable {w0 w w':World} {p d s r x o B:Nat} {P:ByteArray} {st st':Ja} {ds ds':Qz} {lg X9:Jf} {H1 H2:Nat->Prop}
theorem Qt.scan (h:Qt w0 w p d s r x P o st ds lg st' ds' X9 B H1 H2) (hinv:Inv o st) (hB:B<=1000000) (hkn:st.keys.length<=1000000) (f t:ByteArray) (t1 t2 most:Int) (ht:t1<=9223372036854775807):
  Calls Tryz.prog 31 #[.pointer (some ⟨s,0,none⟩), .string f, .string t,Xl t1 t2, .int .i64 most] w (Cz w (Y2 st f t t1 t2 most).1 (Y2 st f t t1 t2 most).2):=by
 obtain ⟨l,m,cs,ka,kc,K,F,G,h1,h2,_⟩:=h.prog
 have hlen:cs.length=st.keys.length:=by
  have:=h1.st.perm.length_eq;unfold Jp at this;rwa [length_map] at this
 exact Qgw h1.st hinv (h1.st.J0d hinv hB h2) (by omega) f t t1 t2 most ht
end
end Go.Proofs.YtgnkmjeoaoongaaGreatDoor
