/- store -/
import Derived.Test.YtgnkmjeoaoongaaGreatDoorVd2
import Derived.Test.YtgnkmjeoaoongaaGreatDoorVc7
import Derived.Test.YtgnkmjeoaoongaaGreatDoorVc9
set_option maxRecDepth 100000
set_option maxHeartbeats 8000000
open List (mem_append mem_singleton length_append getElem_mem length_map length_drop append_assoc)
open Nat (le_refl zero_add le_trans)
namespace Go.Proofs.YtgnkmjeoaoongaaGreatDoor
open Tryz (prog)
open Go.RowKit Go.Mer
structure KS (wq W:World) (key:ByteArray) (Q:Zn) (i:Nat) (e0:Option Nat) (a7:Option (Option Addr×Nat)) (b g:Option Nat):Prop where
 kp:Kp No wq W
 f0: ∀e,e0=some e->Jd 158 2 Xe wq W (.slice (some ⟨e,0,none⟩) 0 0) 0 []
 f7: ∀a,a7=some a->Jd 158 2 Xe wq W (.slice a.1 i a.2) i Q
 f11: ∀x,b=some x->wq.heap.size<=x/\W.heap[x]?=some (.cells #[.slice none 0 0] 148 (0,0))
 f13: ∀x,g=some x->wq.heap.size<=x/\ ∃y,b=some y/\W.heap[x]?=some (.cells #[.string key,Vk y] 158 (0,0))
 ne: ∀x e,g=some x->e0=some e->x≠e
section
variable {wq W V:World} {key:ByteArray} {Q:Zn} {i:Nat} {e0 b g:Option Nat} {a7:Option (Option Addr×Nat)}
theorem KS.start (w:World) (key:ByteArray) (Q:Zn) (i:Nat):KS w w key Q i none none none none:=
 ⟨Kp.refl _ _,λ_ h=>(by cases h),λ_ h=>(by cases h),λ_ h=>(by cases h),λ_ h=>(by cases h),λ_ _ h=>(by cases h)⟩
theorem KS.no (h:KS wq W key Q i e0 a7 b g) (hk:Kp No W V):KS wq V key Q i e0 a7 b g:=
 ⟨h.kp.Q0 hk,λe he=>(h.f0 e he).keep hk,λa ha=>(h.f7 a ha).keep hk,λx hx=>⟨(h.f11 x hx).1,hk.get (h.f11 x hx).2 λx=>x⟩,λx hx=>by
  obtain ⟨h1,y,h2,h3⟩:=h.f13 x hx;exact ⟨h1,y,h2,hk.get h3 λx=>x⟩,h.ne⟩
theorem KS.drawn (h:KS wq W key Q i e0 a7 b g) {n:Nat}:KS wq (W.drewN n) key Q i e0 a7 b g:=h.no ⟨rfl,rfl,rfl,le_refl _,λ_ _ _=>rfl⟩
theorem KS.s0 (h:KS wq W key Q i none a7 b g) {e:Nat} (hV:V=W.alloc (.cells #[] 158)) (he:e=W.heap.size):KS wq V key Q i (some e) a7 b g:=by
 have hk:Kp No W V:=by rw [hV];exact zK.alloc _
 have h1:=h.no hk;refine ⟨h1.kp,λe' he'=>?_,h1.f7,h1.f11,h1.f13,λx e' hx he'=>?_⟩
 ·injection he' with he';subst he';rw [he,hV];exact Jd.made h.kp
 ·injection he' with he';subst he';obtain ⟨_,y,_,h3⟩:=h.f13 x hx;have:=Q7 h3;omega
theorem KS.s11 (h:KS wq W key Q i e0 a7 none none) {x:Nat} (hV:V=W.alloc (.cells #[.slice none 0 0] 148)) (hx:x=W.heap.size):KS wq V key Q i e0 a7 (some x) none:=by
 have hk:Kp No W V:=by rw [hV];exact zK.alloc _
 have h1:=h.no hk;refine ⟨h1.kp,h1.f0,h1.f7,λx' hx'=>?_,λx hx=>(by cases hx),λx e hx=>(by cases hx)⟩;injection hx' with hx';subst hx';exact ⟨by have:=h.kp.size;omega,by rw [hx,hV];exact heap_alloc_new W _⟩
theorem KS.s13 {y:Nat} (h:KS wq W key Q i e0 a7 (some y) none) {x:Nat} (hV:V=W.alloc (.cells #[.string key,Vk y] 158)) (hx:x=W.heap.size):KS wq V key Q i e0 a7 (some y) (some x):=by
 have hk:Kp No W V:=by rw [hV];exact zK.alloc _
 have h1:=h.no hk;refine ⟨h1.kp,h1.f0,h1.f7,h1.f11,λx' hx'=>?_,λx' e hx' he=>?_⟩
 ·injection hx' with hx';subst hx';exact ⟨by have:=h.kp.size;omega,y,rfl,by rw [hx,hV];exact heap_alloc_new W _⟩
 ·injection hx' with hx';subst hx';have h2:=(h.f0 e he).2.1.lt e rfl;omega
theorem KS.s7 {e:Nat} (h:KS wq W key Q i (some e) none b g) {a:Option Addr} {c:Nat} (hQ:Rd wq wq.heap.size a (Q.flatMap Xe)) (hi:Q.length=i) (_hi2:i<=1000000):
  ∃a1 c1 V,(Builtin.append_ #[59,59] 59 #[.slice (some ⟨e,0,none⟩) 0 0, .slice a i c]).run prog W= .ok (.slice a1 i c1) V/\KS wq V key Q i none (some (a1,c1)) b g:=by
 have h0:=h.f0 e rfl;obtain ⟨a1,c1,V,hrun,hrel,hk⟩:=Jd.app (P:=prog) (T:=59) Tryz.underlying59 Np Kg h0 Q (Ub (f:=Xe) (c:=c) Ya (Rd.kp hQ h.kp)) rfl (by rw [hi];unfold maxLen;omega) (by rw [hi];omega);rw [zero_add,List.nil_append,hi] at hrel;rw [zero_add,hi] at hrun;obtain ⟨cur,J5⟩:=h0.2.1.type e rfl
 have hE: ∀k,(Value.slice (some ⟨e,0,none⟩) 0 0).ownBlock=some k->k=e:=λk hk=>by
  have hk:some e=some k:=hk;injection hk with hk;exact hk.symm
 refine ⟨a1,c1,V,hrun,⟨hrel.2.2.2,λe' he'=>(by cases he'),λa' ha'=>?_,λx hx=>?_,λx hx=>?_,λx e' hx he'=>(by cases he')⟩⟩
 ·injection ha' with ha';subst ha';exact hrel
 ·obtain ⟨h1,h2⟩:=h.f11 x hx;exact ⟨h1,hk.get h2 λhh=>Qd h2 J5 (by decide) (hE x hh)⟩
 ·obtain ⟨h1,y,h2,h3⟩:=h.f13 x hx;exact ⟨h1,y,h2,hk.get h3 λhh=>h.ne x e hx rfl (hE x hh)⟩
theorem KS.s14 {y g0:Nat} {a:Option Addr×Nat} (h:KS wq W key Q i e0 (some a) (some y) (some g0)) (_hi:Q.length=i) (_hi2:i<=1000000):
  ∃a1 c1 V,(Builtin.append_ #[59,59] 59 #[.slice a.1 i a.2, .slice (some ⟨g0,0,none⟩) 1 1]).run prog W= .ok (.slice a1 (i+1) c1) V/\Jd 158 2 Xe wq V (.slice a1 (i+1) c1) (i+1) (Q++[(key,⟨y,none,0,[]⟩)])/\
   wq.heap.size<=y/\V.heap[y]?=some (.cells #[.slice none 0 0] 148 (0,0)):=by
 have h7:=h.f7 a rfl;obtain ⟨hy,Jch⟩:=h.f11 y rfl;obtain ⟨_,y',hy',hgc⟩:=h.f13 g0 rfl;injection hy' with hy';subst hy';obtain ⟨a1,c1,V,hrun,hrel,hk⟩:=Jd.app (P:=prog) (T:=59) Tryz.underlying59 Np Kg h7 [((key,⟨y,none,0,[]⟩):ByteArray×Zs)] (Of (f:=Xe) Ya (x:=((key,⟨y,none,0,[]⟩):ByteArray×Zs)) hgc rfl) rfl (by unfold maxLen;omega) (by omega);refine ⟨a1,c1,V,hrun,hrel,hy,hk.get Jch λhh=>?_⟩;obtain ⟨cur,J5⟩:=h7.2.1.type y hh;exact Qd Jch J5 (by decide) rfl
end
theorem Qhs (x:Qe) (w:World) (hx:x.rd w) (hl:x.r.v.val.length<=140737488355328):
  Calls prog 124 #[Cm x] w λe w'=> ∃y:Qe,y.r=x.r/\e= .returned (Cm y)/\y.ok w'/\(∀g,y.sl.ownBlock=some g->w.heap.size<=g)/\Kp No w w':=by
 obtain ⟨r,a,cap⟩:=x;obtain ⟨hR,hc,_⟩:=hx;simp only at hR hc hl⊢
 unfold Cm recC Qe.sl;simp only
 obtain ⟨W2,hW2⟩: ∃W,W=(w.alloc (.cells #[.int .i64 r.o, .int .i64 r.seq, .string r.key, .int .i64 r.v.m, .int .i64 r.v.c, .int .i64 r.v.o, .slice a r.v.val.length cap, .bool r.v.gone, .int .i64 r.v.ttl] 46)).alloc (.cells #[.int .i64 0, .int .i64 0, .string ⟨#[]⟩, .int .i64 0, .int .i64 0, .int .i64 0, .slice none 0 0, .bool false, .int .i64 0] 46):=⟨_,rfl⟩;have k2:Kp No w W2:=by rw [hW2];exact (zK.alloc _).alloc _
 have b1:W2.heap[w.heap.size]?=some (.cells #[.int .i64 r.o, .int .i64 r.seq, .string r.key, .int .i64 r.v.m, .int .i64 r.v.c, .int .i64 r.v.o, .slice a r.v.val.length cap, .bool r.v.gone, .int .i64 r.v.ttl] 46 (0,0)):=by rw [hW2];exact Jm (heap_alloc_new w _) _
 have b2:W2.heap[w.heap.size+1]?=some (.cells #[.int .i64 0, .int .i64 0, .string ⟨#[]⟩, .int .i64 0, .int .i64 0, .int .i64 0, .slice none 0 0, .bool false, .int .i64 0] 46 (0,0)):=by rw [hW2];exact (congrArg (λk=>((w.alloc _).alloc _).heap[k]?) (by simp)).trans (heap_alloc_new (w.alloc _) _)
 have hal:Kp No W2 (W2.alloc (.cells #[] 5)):=zK.alloc _;have hown0:Own (W2.alloc (.cells #[] 5)) 5 1 (.slice (some ⟨W2.heap.size,0,none⟩) 0 0) 0 []:=Own.made W2 5 1 #[] 0 0 (le_refl _) (by simp [maxLen]) (by simp) rfl
 have hsrc:Mer.Src (W2.alloc (.cells #[] 5)) 1 (.slice a r.v.val.length cap) r.v.val.length (u8s r.v.val):=⟨by simp [Yj],a,cap,rfl,λhx=>by
  obtain ⟨g,off,h1,h2,h3,h4⟩:=Rd.kp hR k2 hx;exact ⟨g,off,h1,by simp;omega,le_refl _,λj u hu=>(hal.cell (p:=⟨g,off+j,none⟩) (by show g<_;omega) (λx=>x)).trans (h4 j u hu)⟩⟩
 obtain ⟨i0,hi,hz0,hz1,hz2⟩:=info_parts infoByte
 obtain ⟨u,w3,hrun,hown,hkp,hblk⟩:=Z0 (P:=prog) (w:=W2.alloc (.cells #[] 5)) 42 42 42 5 i0 (.int .u8 0) 1 1 Tryz.underlying42 ⟨_,Tryz.underlying42⟩ hi hz0 hz1 hz2 rfl
  (.slice (some ⟨W2.heap.size,0,none⟩) 0 0) 0 [] hown0 (.slice a r.v.val.length cap) r.v.val.length (u8s r.v.val) hsrc (Om r.v.val) (by simp only [maxLen];omega) (by omega)
 rw [zero_add,List.nil_append] at hown;have hk:Kp No W2 w3:=hal.trans hkp (λk hk h=>by simp [Value.ownBlock] at h;omega)
 have hf: ∀g,u.ownBlock=some g->W2.heap.size<=g:=λg hg=>by
  rcases hblk with h|⟨g',h,h'⟩
  ·rw [h] at hg;simp [Value.ownBlock] at hg
   omega
  ·rw [h] at hg;injection hg with hg;simp at h'
   omega
 clear hal hown0 hsrc hi hz0 hz1 hz2 hkp hblk;obtain ⟨n,hn⟩: ∃n,n=r.v.val.length:=⟨_,rfl⟩;rw [<-hn] at hrun hown b1 hW2⊢;have c3:=Q4 b1 6;have hl1:=Q7 b1;simp at c3
 have HB:=zz (And.intro b1 b2);have J9:=zz k2;obtain ⟨_,a1,c1,rfl,_⟩:=id hown;have Hz:=zz hrun;have HN:=zz hn;have HW2:=zz hW2;have ho:=hown;clear b1 b2 k2 hrun hown hn hR hc hl;have b1:=hk.get HB.out.1 λx=>x;have b2:=hk.get HB.out.2 λx=>x;have f1:=Qh b1 6;have d3:=Q4 b1 6;have hl1:=Q7 b1;simp at d3
 have HB1:=zz b1;have HB2:=zz b2;have HO:=zz (And.intro ho (And.intro (λg hg=>le_trans J9.out.size (hf g hg)) (J9.out.Q0 hk)));clear ho hf hk b1 b2 HB J9 hW2;go_enter Tryz.func124,Tryz.ntmps124
 go_upto_region 1 with fail
 (try rw [<-HW2.out])
 go_upto_region 2 with (at_builtin;refine wpList_append_run rfl rfl rfl rfl Hz.out ?_)
 obtain ⟨W4,Mz⟩: ∃W,W=w3.setCell ⟨w.heap.size,6,none⟩ (.slice a1 n c1):=⟨_,rfl⟩;have k4:Kp (Mer.One w.heap.size) w3 W4:=by rw [Mz];exact (Kp.refl (Mer.One w.heap.size) _).setCell (p:=⟨w.heap.size,6,none⟩) (.inl (show Mer.One w.heap.size w.heap.size from rfl)) _
 have b4:=Ql HB1.out 6 (.slice a1 n c1);rw [<-Mz] at b4;have HR1:=zz (show W4.rangeAt w.heap.size 0 [.int .i64 r.o, .int .i64 r.seq, .string r.key, .int .i64 r.v.m, .int .i64 r.v.c, .int .i64 r.v.o, .slice a1 n c1, .bool r.v.gone, .int .i64 r.v.ttl] from Qg b4 0 9);have HB4:=zz (k4.get HB2.out λe=>by have e:w.heap.size+1=w.heap.size:=e;omega);have Gf:=zz k4;rw [<-Mz];clear Mz k4 b4 f1 d3 hl1
 go_wp2_with (first
  |(refine Qj rfl 46 _ rfl w.heap.size 0 rfl _ _ HR1 Tryz.underlying46 rfl (by kernel_rfl) ?_)
  |(refine Zx rfl 46 _ _ rfl (w.heap.size+1) _ rfl rfl 46 _ HB4 (by kernel_rfl) (by rfl) (by rfl) ?_))
 obtain ⟨W5,C8⟩: ∃W,W=W4.setRow (w.heap.size+1) #[.int .i64 r.o, .int .i64 r.seq, .string r.key, .int .i64 r.v.m, .int .i64 r.v.c, .int .i64 r.v.o, .slice a1 n c1, .bool r.v.gone, .int .i64 r.v.ttl]:=⟨_,rfl⟩;have k5:Kp (Mer.One (w.heap.size+1)) W4 W5:=by rw [C8];exact (Kp.refl (Mer.One (w.heap.size+1)) _).setRow (.inl (show Mer.One (w.heap.size+1) (w.heap.size+1) from rfl)) _
 have b5:=Uu (cs:= #[.int .i64 r.o, .int .i64 r.seq, .string r.key, .int .i64 r.v.m, .int .i64 r.v.c, .int .i64 r.v.o, .slice a1 n c1, .bool r.v.gone, .int .i64 r.v.ttl]) HB4.out;rw [<-C8] at b5;have d0:=Q4 b5 0;have d1:=Q4 b5 1;have d2:=Q4 b5 2;have d3:=Q4 b5 3;have d4:=Q4 b5 4;have d5:=Q4 b5 5;have d6:=Q4 b5 6;have d7:=Q4 b5 7;have d8:=Q4 b5 8;simp at d0 d1 d2 d3 d4 d5 d6 d7 d8
 (try rw [<-C8])
 have Qsw:Kp (λk=>k=w.heap.size\/k=w.heap.size+1) w3 W5:=(Gf.out.mono λ_ _ h=> .inl h).trans k5 λ_ _ h=> .inr h;refine bodyPost_ret (v:= .agg #[.int .i64 r.o, .int .i64 r.seq, .string r.key, .int .i64 r.v.m, .int .i64 r.v.c, .int .i64 r.v.o, .slice a1 n c1, .bool r.v.gone, .int .i64 r.v.ttl]) (by simp [results,Tryz.results124,go_sem,d0,d1,d2,d3,d4,d5,d6,d7,d8]) rfl ⟨⟨r,a1,c1⟩,rfl,?_,?_,?_,?_⟩
 ·rw [show n=_ from HN.out]
 ·have h:Own w3 5 1 (.slice a1 r.v.val.length c1) r.v.val.length (u8s r.v.val):=by rw [<-show n=_ from HN.out];exact HO.out.1
  exact h.keep Qsw λg hg hS=>by
   obtain ⟨cur,E2⟩:=h.type g hg;rcases hS with rfl|rfl
   ·exact Qd E2 HB1.out (by decide) rfl
   ·exact Qd E2 HB2.out (by decide) rfl
 ·intro g hg;rw [<-show n=_ from HN.out] at hg;exact HO.out.2.1 g hg
 ·exact HO.out.2.2.trans Qsw λi hi hS=>by rcases hS with rfl|rfl<;>omega
theorem Q1l: ∀(l:List (ByteArray×List Qo)) (k:ByteArray) (c1 c:List Qo),Z3 (Z3 l k c1) k c=Z3 l k c
 |[],k,c1,c=>by
  show Z3 [(k,c1)] k c=[(k,c)]
  rw [Z3,if_neg (Jr _),if_pos rfl]
 |x::l,k,c1,c=>by
  by_cases h1:Uf x.1 k
  ·rw [Z3,if_pos h1,Z3,if_pos h1,Z3,if_pos h1,Q1l l k c1 c]
  ·by_cases h2:x.1=k
   ·rw [Z3,if_neg h1,if_pos h2,Z3,if_neg (Jr _),if_pos rfl,Z3,if_neg h1,if_pos h2]
   ·rw [Z3,if_neg h1,if_neg h2,Z3,if_neg (Jr _),if_pos rfl,Z3,if_neg h1,if_neg h2]
def Qf3 (w:World) (s r y:Nat) (P:ByteArray) (o:Nat) (st:Ja) (la:Option Addr) (lc:Nat) (cs:Zn) (ka:Option Addr) (kc:Nat) (K:List Qe) (L:List Qu) (B:Nat) (k:Nat) (wr:World):Prop:=
 ∃la' Qlz cs' Ce Cf K',Vo wr s r y P o (Jh o st (L.take k)) la' Qlz cs' Ce Cf K'/\(∀g,Zg s la' Qlz cs' Ce Cf K' g->Zg s la lc cs ka kc K g\/w.heap.size<=g)/\Kp (Zg s la lc cs ka kc K) w wr/\(∀p∈cs',p.2.R.length<=B+k)/\K'.length<=B+k/\cs'.length<=B+k
def Qug (w:World) (s r y:Nat) (P:ByteArray) (o:Nat) (F0:Nat->Prop) (stk:Ja) (key:ByteArray) (i p:Nat) (rc:Array Value) (z:Qe) (ka:Option Addr) (kc:Nat) (K:List Qe) (B k:Nat) (wx:World):Prop:=
 ∃la lc cs keysA,Vo wx s r y P o {stk with keys:=keysA} la lc cs ka kc K/\Lu cs/\(∃hi:i<cs.length,cs[i].1=key/\cs[i].2.vs=Qw stk.keys key)/\(∀c,Z3 keysA key c=Z3 stk.keys key c)/\(∀g,Zg s la lc cs ka kc K g->F0 g\/w.heap.size<=g)/\Kp F0 w wx/\
  wx.heap[p]?=some (.cells rc 46 (0,0))/\ ¬Zg s la lc cs ka kc K p/\z.ok wx/\(∀q∈cs,q.2.R.length<=B+k)/\cs.length<=B+(k+1)
theorem Q7v {cs:Zn} {l:List (ByteArray×List Qo)} (h:Jp cs=l) (hs:Lu cs) {k:ByteArray} {i:Nat} (hi:i<cs.length) (hk:cs[i].1=k):cs[i].2.vs=Qw l k:=by
 unfold Qw;rw [<-h,Dt,Q6z hs hi hk];rfl
theorem Qc0 {cs:Zn} {l:List (ByteArray×List Qo)} (h:Jp cs=l) {k:ByteArray} {i:Nat} (hsp:Ls cs k i false):Qw l k=[]:=by
 have hn:Qs cs k=none:=Xu λhm=>by
  obtain ⟨p,hp,e⟩:=List.mem_map.1 hm;rw [<-List.take_append_drop i cs] at hp;rcases mem_append.1 hp with hp|hp
  ·have:=hsp.lo p hp;rw [e] at this;exact Jr _ this
  ·have:=hsp.no rfl p hp;rw [e] at this;exact Jr _ this
 unfold Qw;rw [<-h,Dt,hn];rfl
def Q6h (w3 w4:World) (csA:Zn) (i:Nat) (key:ByteArray) (cb:Nat) (a2:Option Addr) (c2:Nat):Prop:=
 Jd 158 2 Xe w3 w4 (.slice a2 (i+1) c2) (i+1) (csA.take i++[(key,⟨cb,none,0,[]⟩)])/\w3.heap.size<=cb/\w4.heap[cb]?=some (.cells #[.slice none 0 0] 148 (0,0))
theorem Qg8 {w wx:World} {s r y o i p k B:Nat} {P:ByteArray} {F0:Nat->Prop} {stk:Ja} {key:ByteArray} {rc:Array Value} {z:Qe} {la ka:Option Addr} {lc kc:Nat} {cs:Zn} {K:List Qe} (h:Vo wx s r y P o stk la lc cs ka kc K) (hs:Yy stk.keys) (hsp:Ls cs key i true) (hf: ∀g,Zg s la lc cs ka kc K g->F0 g\/w.heap.size<=g) (hk:Kp F0 w wx)
  (hp:wx.heap[p]?=some (.cells rc 46 (0,0))) (hpn: ¬Zg s la lc cs ka kc K p) (hz:z.ok wx) (hl: ∀q∈cs,q.2.R.length<=B+k) (_hc:cs.length<=B+k):Qug w s r y P o F0 stk key i p rc z ka kc K B k wx:=by
 have hsc:=Q1o h.Vd hs;obtain ⟨hi,hki⟩:=hsp.yes rfl;exact ⟨la,lc,cs,stk.keys,h,hsc,⟨hi,hki,Q7v h.Vd hsc hi hki⟩,λ_=>rfl,hf,hk,hp,hpn,hz,hl,by omega⟩
theorem Ac {w w3 w4 w5:World} {s r y o i p k B cb:Nat} {P:ByteArray} {F0:Nat->Prop} {stk:Ja} {key:ByteArray} {rc:Array Value} {z:Qe} {la ka a2 a3:Option Addr} {lc kc c2 c3:Nat} {cs:Zn} {K:List Qe} (h:Vo w3 s r y P o stk la lc cs ka kc K) (hs:Yy stk.keys) (hsp:Ls cs key i false) (hf: ∀g,Zg s la lc cs ka kc K g->F0 g\/w.heap.size<=g) (hk:Kp F0 w w3) (hw3:w.heap.size<=w3.heap.size)
  (hp:w3.heap[p]?=some (.cells rc 46 (0,0))) (hpn: ¬Zg s la lc cs ka kc K p) (hz:z.ok w3) (hl: ∀q∈cs,q.2.R.length<=B+k) (_hc:cs.length<=B+k) (hI:Q6h w3 w4 cs i key cb a2 c2) (h3:Jd 158 2 Xe w3 w5 (.slice a3 (cs.length+1) c3) (cs.length+1) (cs.take i++(key,⟨cb,none,0,[]⟩)::cs.drop i)) (h45:Kp (λg=>(Value.slice a2 (i+1) c2).ownBlock=some g) w4 w5):
  Qug w s r y P o F0 stk key i p rc z ka kc K B k (w5.setCell ⟨s,5,none⟩ (.slice a3 (cs.length+1) c3)):=by
 have h35:=h3.2.2.2
 have J7h:w5.heap[cb]?=some (.cells #[.slice none 0 0] 148 (0,0)):=h45.get hI.2.2 λe=>by
  obtain ⟨cur,J5⟩:=hI.1.2.1.type cb e;exact Qd hI.2.2 J5 (by decide) rfl
 have hok:Xr 148 w5 ⟨cb,none,0,[]⟩:=⟨J7h,Own.nil _ _ _,λv hv=>absurd hv List.not_mem_nil⟩;have hst:=h.Qwb hsp h35 hok hI.2.1 h3.2.1 h3.2.2.1;have hlt:=h.lt;have hxl:=Q7 h.cell;have hpl:=Q7 hp
 have hcf: ∀g,K6 (cs.take i++(key,(⟨cb,none,0,[]⟩:Zs))::cs.drop i) g->K6 cs g\/w3.heap.size<=g:=by
  rintro g ⟨q,hq,hg⟩;have hq2:=(Ke cs i (key,(⟨cb,none,0,[]⟩:Zs))).mem_iff.2 hq;rcases mem_append.1 hq2 with hq2|hq2
  ·exact .inl ⟨q,hq2,hg⟩
  ·rw [mem_singleton] at hq2;subst hq2;rcases hg with hg|hg|⟨v,hv,_⟩
   ·exact .inr (by have:=hI.2.1;have hg:g=cb:=hg;omega)
   ·simp [Zs.row,Value.ownBlock] at hg
   ·exact absurd hv List.not_mem_nil
 have J16: ∀g,Zg s a3 c3 (cs.take i++(key,(⟨cb,none,0,[]⟩:Zs))::cs.drop i) ka kc K g->Zg s la lc cs ka kc K g\/w3.heap.size<=g:=λg hg=>by
  rcases hg with hg|hg|hg|hg
  ·exact .inl (.inl hg)
  ·rw [Bf a3 _ (cs.length+1) _ c3] at hg;exact .inr (h3.2.2.1 g hg)
  ·exact (hcf g hg).imp (λh=> .inr (.inr (.inl h))) id
  ·exact .inl (.inr (.inr (.inr hg)))
 have hlen:(cs.take i++(key,(⟨cb,none,0,[]⟩:Zs))::cs.drop i).length=cs.length+1:=by
  have:=(Ke cs i (key,(⟨cb,none,0,[]⟩:Zs))).length_eq;rw [<-this,length_append,List.length_singleton]
 have hti:(cs.take i).length=i:=by have:=hsp.le;rw [List.length_take];omega
 have hs5:Kp (Mer.One s) w5 (w5.setCell ⟨s,5,none⟩ (.slice a3 (cs.length+1) c3)):=(Kp.refl (Mer.One s) w5).setCell (p:=⟨s,5,none⟩) (.inl (show Mer.One s s from rfl)) _;have hps:p≠s:=λe=>hpn (.inl e);have hkeys:=hst.Vd;have hsc:=Q1o hkeys (Yc hs _ _)
 have hget:(cs.take i++(key,(⟨cb,none,0,[]⟩:Zs))::cs.drop i)[i]?=some (key,⟨cb,none,0,[]⟩):=by
  rw [List.getElem?_append_right (by omega),hti,Nat.sub_self];rfl
 obtain ⟨hi,hge⟩:=List.getElem?_eq_some_iff.1 hget;refine ⟨a3,c3,_,_,hst,hsc,⟨hi,by rw [hge],by rw [hge,Qc0 h.Vd hsp];rfl⟩,λc=>Q1l _ _ _ _,λg hg=>?_,(hk.Qr h35).setCell (p:=⟨s,5,none⟩) (hf s (.inl rfl)) _,hs5.get (h35.get hp λx=>x) λe=>hps e,λhg=>?_,?_,λq hq=>?_,by rw [hlen];omega⟩
 ·rcases J16 g hg with h1|h1
  ·exact hf g h1
  ·exact .inr (le_trans hw3 h1)
 ·rcases J16 p hg with h1|h1
  ·exact hpn h1
  ·omega
 ·have h5:z.ok w5:=Qm.ok.keep hz h35 λ_ _ x=>x
  exact Qm.ok.apart h5 hs5 λg hg cur J5=>by
   have hg:g=s:=hg;exact Qd J5 (h.Q9 h35).cell (by decide) hg
 ·have hq2:=(Ke cs i (key,(⟨cb,none,0,[]⟩:Zs))).mem_iff.2 hq;rcases mem_append.1 hq2 with hq2|hq2
  ·exact hl q hq2
  ·rw [mem_singleton] at hq2;subst hq2;exact Nat.zero_le _
theorem Qpa {t:TypeId} {c c':Zs} {v:Qo} {w w':World} (h:Qf5 t c c' v w w') {g:Nat} (hg:Qrx c' g):Qrx c g\/w.heap.size<=g:=by
 rcases hg with hg|hg|⟨z,hz,hg⟩
 ·exact .inl (.inl (hg.trans h.b))
 ·rcases h.row with hr|⟨g',hr,hn⟩
  ·exact .inl (.inr (.inl (hr▸hg)))
  ·rw [hr] at hg;injection hg with hg;exact .inr (hg▸hn)
 ·rcases h.vals z hz with hv|hv
  ·exact .inl (.inr (.inr ⟨z,hv,hg⟩))
  ·exact .inr (hv g hg)
theorem Qqk {w w5 we w6 w8:World} {s r y o i p k B:Nat} {P:ByteArray} {F0:Nat->Prop} {stk:Ja} {key:ByteArray} {rc:Array Value} {z:Qe} {Qg4 ka:Option Addr} {Qc1 kc:Nat} {cs2:Zn} {keysA:List (ByteArray×List Qo)} {K:List Qe} {q:ByteArray×Zs} {c6:Zs} {v:Qo}
  (h:Vo w5 s r y P o {stk with keys:=keysA} Qg4 Qc1 cs2 ka kc K/\Lu cs2/\q.1=key/\q.2.vs=Qw stk.keys key/\(∀c,Z3 keysA key c=Z3 stk.keys key c)/\(∀g,Zg s Qg4 Qc1 cs2 ka kc K g->F0 g\/w.heap.size<=g)/\Kp F0 w w5/\(∀q∈cs2,q.2.R.length<=B+k)/\cs2.length<=B+(k+1))
  (hB:w5.heap[p]?=some (.cells rc 46 (0,0))/\ ¬Zg s Qg4 Qc1 cs2 ka kc K p/\z.ok w5) (hq: ∃hj:i<cs2.length,q=cs2[i]) (hke:Kp No w5 we) (hP:Qf5 148 q.2 c6 v we w6) (hk8:Kp No w6 w8):
  ∃stB:Ja,stB={stk with keys:=Z3 stk.keys key (E0 (Qw stk.keys key) v)}/\ ∃Qjo,Vo w8 s r y P o stB Qg4 Qc1 Qjo ka kc K/\(∀g,Zg s Qg4 Qc1 Qjo ka kc K g->F0 g\/w.heap.size<=g)/\Kp F0 w w8/\w8.heap[p]?=some (.cells rc 46 (0,0))/\ ¬Zg s Qg4 Qc1 Qjo ka kc K p/\z.ok w8/\(∀q∈Qjo,q.2.R.length<=B+(k+1))/\Qjo.length<=B+(k+1):=by
 obtain ⟨hC,hsc,hk,hvs,hset,hF,hK,hl,hcn⟩:=h;obtain ⟨J0j,hpn,hz⟩:=hB;obtain ⟨hi,rfl⟩:=hq;have Jbh:=hC.Q9 hke;have hmem:=getElem_mem hi;have hco:=Jbh.Fx.each _ hmem
 have hrow:c6.row.ownBlock=cs2[i].2.row.ownBlock\/ ∀g,c6.row.ownBlock=some g->we.heap.size<=g:=hP.row.imp id λ⟨g',hr,hn⟩ g hg=>by
  rw [hr] at hg;injection hg with hg;exact hg▸hn
 have hst:=(Jbh.Iz hsc hi hk hP.b hP.kp hP.ok hrow).Q9 hk8;have hlen:(Jb cs2 key c6).length=cs2.length:=(Q3h hsc hi hk hP.b).2;have hsz:=hke.size
 have J16: ∀g,Zg s Qg4 Qc1 (Jb cs2 key c6) ka kc K g->Zg s Qg4 Qc1 cs2 ka kc K g\/we.heap.size<=g:=λg hg=>by
  rcases hg with hg|hg|hg|hg
  ·exact .inl (.inl hg)
  ·rw [hlen] at hg;exact .inl (.inr (.inl hg))
  ·rw [<-hk] at hg;exact (Qfh hmem (λg hg=>Qpa hP hg) g hg).imp (λh=> .inr (.inr (.inl h))) id
  ·exact .inl (.inr (.inr (.inr hg)))
 have hpl:=Q7 J0j
 have hS: ∀g,(g=cs2[i].2.b\/cs2[i].2.row.ownBlock=some g)->Ty we 148 g\/Ty we 44 g:=by
  rintro g (rfl|hg)
  ·exact .inl ⟨_,hco.cell⟩
  ·exact .inr (hco.own.type g hg)
 have J6x:=hke.get J0j λx=>x;refine ⟨_,rfl,Jb cs2 key c6,?_,λg hg=>?_,((hK.Qr hke).trans hP.kp λj hj e=>?_).Qr hk8,hk8.get (hP.kp.get J6x λe=>?_) λx=>x,λhg=>?_,?_,λq hq=>?_,by rw [hlen];exact hcn⟩
 ·have e:Z3 keysA key c6.vs=Z3 stk.keys key (E0 (Qw stk.keys key) v):=by rw [hset,hP.vs,hvs]
  rw [<-e];exact hst
 ·rcases J16 g hg with h1|h1
  ·exact hF g h1
  ·have:=hK.size;exact .inr (by omega)
 ·rcases hF j (.inr (.inr (.inl ⟨_,hmem,e.imp id λe=> .inl e⟩))) with h1|h1
  ·exact h1
  ·omega
 ·rcases hS p e with t|t
  ·exact t.ne ⟨_,J6x⟩ (by decide) rfl
  ·exact t.ne ⟨_,J6x⟩ (by decide) rfl
 ·rcases J16 p hg with h1|h1
  ·exact hpn h1
  ·omega
 ·have hze:z.ok we:=Qm.ok.keep hz hke λ_ _ x=>x
  have Jck:z.ok w6:=Qm.ok.apart hze hP.kp λg hg cur J5=>by
   rcases hS g hg with t|t
   ·exact t.ne ⟨_,J5⟩ (by decide) rfl
   ·exact t.ne ⟨_,J5⟩ (by decide) rfl
  exact Qm.ok.keep Jck hk8 λ_ _ x=>x
 ·have J96:=Nl (cs:=cs2) (k:=key) (c':=c6) (Q:=λc=>c.R.length<=B+(k+1)) (λq hq=>by have:=hl q hq;omega) (by
   have h1:=congrArg List.length hP.vs;unfold Zs.vs at h1;rw [length_map,Fp,length_map] at h1;have:=hl _ hmem;omega)
  exact J96 q hq
theorem Q9r {w:World} {s r y o:Nat} {P:ByteArray} {st:Ja} {la:Option Addr} {lc:Nat} {cs:Zn} {ka:Option Addr} {kc:Nat} {K:List Qe} (h:Vo w s r y P o st la lc cs ka kc K) (hinv:Inv o st)
  (a:Option Addr) (cap:Nat) (L:List Qe) (hL: ∀W,Kp (Zg s la lc cs ka kc K) w W->Y1 W a L) (_hc:L.length<=cap) (hr: ∀r∈L.map Qe.r,Z4 r=true) (hg:Xx st.mm st.mc st.of (L.map Qe.r)=true) (hn:L.length<=64) (B:Nat) (_hB:B<=900000) (hcB: ∀p∈cs,p.2.R.length<=B) (hkB:K.length<=B) (hcn:cs.length<=B):
  Calls prog 70 #[.pointer (some ⟨s,0,none⟩), .slice a L.length cap] w λe w'=>e= .returned (.tuple #[])/\Qf3 w s r y P o st la lc cs ka kc K (L.map Qe.r) B L.length w':=by
 obtain ⟨n,Xw⟩: ∃n,n=L.length:=⟨_,rfl⟩;have hsl:=Q7 h.cell;have Qx9:=zz (show Qf3 w s r y P o st la lc cs ka kc K (L.map Qe.r) B 0 w from ⟨la,lc,cs,ka,kc,K,h,λ_ x=> .inl x,Kp.refl _ _,λp hp=>by have:=hcB p hp;omega,by omega,by omega⟩);have HL:=zz hL;have HN:=zz Xw;have HR:=zz (And.intro hr (And.intro hg hinv));have hnn:n<=64:=by omega
 rw [<-Xw];clear h hL Xw hr hg hinv _hc hn hcB hkB hcn;go_enter Tryz.func70,Tryz.ntmps70
 go_wp2_with fail
 go_loopw [4] (λi wr=> ∃k:Nat,k<=n/\i= .int .i64 (k:Int)/\Hid (Qf3 w s r y P o st la lc cs ka kc K (L.map Qe.r) B k wr)) (λi _=>n-(intOf i).toNat)
 case atStart=>exact ⟨0,Nat.zero_le _,rfl,Qx9⟩
 case round=>
  clear Qx9;obtain ⟨k,hk,rfl,HJ⟩:=hrel;rcases Nat.lt_or_ge k n with hlt|hge
  ·obtain ⟨J30,Q0t,csA,Ed,Ee,KA,hC,hF,hK,hlen,Q7b,hcl⟩:=HJ.out;have Y8:k<L.length:=by have:=HN.out;omega
   have hLr:=HL.out wr hK;obtain ⟨g,off,rfl,hgl,hgr⟩:=Jx hLr.1 Y8;have hxk:(L.map Qe.r)[k]?=some L[k].r:=by rw [List.getElem?_map,List.getElem?_eq_getElem Y8];rfl
   have hxi:=HR.out.1 L[k].r (List.mem_of_getElem? hxk);have hstep:=Q80 HR.out.2.2 HR.out.1 HR.out.2.1 hxk
   have hnext:(L.map Qe.r).take (k+1)=(L.map Qe.r).take k++[L[k].r]:=by
    rw [List.take_succ_eq_append_getElem (by rw [length_map];exact Y8),List.getElem_map]
   have hxr:=hLr.2 L[k] (getElem_mem Y8);obtain ⟨x,hx⟩: ∃x,x=L[k]:=⟨_,rfl⟩;rw [<-hx] at hgr hxi hstep hnext hxr;obtain ⟨stk,Q0k⟩: ∃stk,stk=Jh o st ((L.map Qe.r).take k):=⟨_,rfl⟩;rw [<-Q0k] at hstep hC;obtain ⟨Qq1,hso⟩:=hstep;have hmm:stk.mm=st.mm/\stk.mc=st.mc:=by rw [Q0k];exact ⟨(Ef o _ st).2.1,(Ef o _ st).2.2.1⟩
   rw [<-hmm.1,<-hmm.2] at hso;have hhas:=Q57 Qq1 hxi hso;obtain ⟨hcs,Qva⟩:=O2 Qq1 x.r.key;obtain ⟨hv,e1,e2,e3,_⟩:=Y9.1 hxi;obtain ⟨_,o1,o2,hvl,_⟩:=Zi.1 hv;obtain ⟨oN,Q3f⟩: ∃oN:Nat,x.r.o=(oN:Int):=⟨x.r.o.toNat,by omega⟩;have A8:oN<5:=by omega
   have R1:=zz (hgr wr zK)
   have how:Calls prog 124 #[Cm x] wr λe w'=> ∃(ya:Option Addr) (yc:Nat),e= .returned (.agg #[.int .i64 (oN:Int), .int .i64 x.r.seq, .string x.r.key, .int .i64 x.r.v.m, .int .i64 x.r.v.c, .int .i64 x.r.v.o, .slice ya x.r.v.val.length yc, .bool x.r.v.gone, .int .i64 x.r.v.ttl])/\Qe.ok ⟨x.r,ya,yc⟩ w'/\(∀g,(Qe.sl ⟨x.r,ya,yc⟩).ownBlock=some g->wr.heap.size<=g)/\Kp No wr w':=by
    refine (Qhs x wr hxr (by omega)).mono ?_;rintro e w' ⟨⟨yr,ya,yc⟩,Qt9,rfl,hyo,hyn,hk'⟩;have Qt9:yr=x.r:=Qt9;subst Qt9;refine ⟨ya,yc,?_,hyo,hyn,hk'⟩;unfold Cm recC Qe.sl;simp only
    rw [Q3f]
   have HOW:=zz how;have Qhw:=zz (And.intro hC (And.intro hF (And.intro hK (And.intro hlen (And.intro Q7b hcl)))));have HX:=zz (And.intro hxi (And.intro hso (And.intro Qq1 (And.intro Q3f (And.intro hnext Q0k)))));have Qnx:=zz (And.intro hcs (And.intro hv hhas));have hg3:=hgl;clear hC hF hK hlen Q7b hcl Y8 hLr hgl hgr hxk hxi hnext hxr hx Q0k Qq1 hso hmm hhas hcs Qva hv e1 e2 e3 o1 o2 hvl Q3f how HJ;go_wp2_with (refine Qj rfl 46 _ rfl g (off+k*9) rfl _ _ R1 Tryz.underlying46 rfl (by kernel_rfl) ?_)
   refine HOW.out.mono ?_;rintro e w1 ⟨ya,yc,rfl,hyo,hyn,k1⟩;obtain ⟨w2,hw2⟩: ∃W,W=w1.alloc (.cells #[.int .i64 (oN:Int), .int .i64 x.r.seq, .string x.r.key, .int .i64 x.r.v.m, .int .i64 x.r.v.c, .int .i64 x.r.v.o, .slice ya x.r.v.val.length yc, .bool x.r.v.gone, .int .i64 x.r.v.ttl] 46):=⟨_,rfl⟩;obtain ⟨p,hp⟩: ∃p,p=w1.heap.size:=⟨_,rfl⟩;have k2:Kp No w1 w2:=by rw [hw2];exact zK.alloc _
   have b2:w2.heap[p]?=some (.cells #[.int .i64 (oN:Int), .int .i64 x.r.seq, .string x.r.key, .int .i64 x.r.v.m, .int .i64 x.r.v.c, .int .i64 x.r.v.o, .slice ya x.r.v.val.length yc, .bool x.r.v.gone, .int .i64 x.r.v.ttl] 46 (0,0)):=by rw [hw2,hp];exact heap_alloc_new w1 _
   have k12:=k1.Q0 k2;have hC2:=Qhw.out.1.Q9 k12;have HC2:=zz hC2;have J9:=zz (Qhw.out.2.2.1.Qr k12);have HZ2:=zz (show Qe.ok ⟨x.r,ya,yc⟩ w2 from Qm.ok.keep hyo k2 λ_ _ x=>x);have Q2j:=zz (show ¬Zg s J30 Q0t csA Ed Ee KA p from λhg=>by have:=Qhw.out.1.lt p hg;have:=k1.size;omega);have Dd:=zz (show w.heap.size<=p/\ ∀g,(Qe.sl ⟨x.r,ya,yc⟩).ownBlock=some g->w.heap.size<=g from ⟨by have:=Qhw.out.2.2.1.size;have:=k1.size;omega,λg hg=>by have:=hyn g hg;have:=Qhw.out.2.2.1.size;omega⟩);have HB2:=zz b2;have HW2:=zz (And.intro hw2 hp);have hkey:=Q9q hC2 HX.out.2.2.1.sorted (by have:=Qhw.out.2.2.2.2.2;omega) x.r.key;have HKEY:=zz hkey;have q2:w2.cell? ⟨p,2,none⟩=some (.string x.r.key):=Q4 b2 2;have lp2:=Q7 b2;clear hyo hyn k1 hw2 hp k2 b2 k12 hC2 hkey HOW;go_upto_region 4 with (refine Qy rfl 46 _ _ rfl w1.heap.size (by rfl) _ _ _ rfl rfl (by kernel_rfl) (by rfl) (by rfl) ?_)
   rw [<-HW2.out.1,<-HW2.out.2];go_wp2_with fail
   refine HKEY.out.mono ?_;rintro e w3 ⟨i,b,rfl,hsp,k3⟩;have Db:=zz (HC2.out.Q9 k3);have Zk:=zz (J9.out.Qr k3);have HB3:=zz (k3.get HB2.out λx=>x);have HZ3:=zz (show Qe.ok ⟨x.r,ya,yc⟩ w3 from Qm.ok.keep HZ2.out k3 λ_ _ x=>x);have Mp:=zz hsp;have HF3:=zz Qhw.out.2.1;have Qez:=Q2j;have Q6e:=zz (And.intro Qhw.out.2.2.2.1 (And.intro Qhw.out.2.2.2.2.1 Qhw.out.2.2.2.2.2));have Qf2:=zz HX.out.2.2.1.sorted;have HW3:=zz Zk.out.size;obtain ⟨nA,hnA⟩: ∃nA,nA=csA.length:=⟨_,rfl⟩;have hiA:=hsp.le;rw [<-hnA] at hiA;have Hy:=zz hnA;have Qaf:=zz (Own.rd' Db.out.row)
   have J7z:nA<=Q0t:=by
    obtain ⟨_,a,c,e,h1,_⟩:=Db.out.row;injection e with _ _ e3;rw [e3,hnA];exact h1
   have hnB:nA<=1000000:=by have:=Q6e.out.2.2;omega
   clear k3 hsp hnA HKEY HW2 q2 lp2 HC2 J9 HB2 HZ2;go_upto_if 28 with fail
   go_cut [7,8] from 20 to 54 (λs7 s8 wx=>Hid (Qug w s r y P o (Zg s la lc cs ka kc K) stk x.r.key i p #[.int .i64 (oN:Int), .int .i64 x.r.seq, .string x.r.key, .int .i64 x.r.v.m, .int .i64 x.r.v.c, .int .i64 x.r.v.o, .slice ya x.r.v.val.length yc, .bool x.r.v.gone, .int .i64 x.r.v.ttl] ⟨x.r,ya,yc⟩ Ed Ee KA B k wx))
   case first=>
    cases b with
    |true=>
     have Q9w:=zz (Qg8 Db.out Qf2.out Mp.out HF3.out Zk.out HB3.out Qez.out HZ3.out Q6e.out.1 Q6e.out.2.2);go_wp2_with fail
     go_meet
     case rel=>exact Q9w
    |false=>
     have hTL:(csA.take i).length=i:=by have:=Hy.out;rw [List.length_take];omega
     have Gg:=zz (And.intro hTL (show i<=1000000 by omega));clear hTL
     have had:J30=none\/ ∃g off,J30=some ⟨g,off,none⟩:=by
      obtain ⟨_,a,c,e,_,_,_,h4⟩:=Db.out.row;injection e with e1;cases ha:a with
      |none=>exact .inl (e1.trans ha)
      |some ad=>
       obtain ⟨g,off,cur,rfl,_⟩:=h4 ad ha;exact .inr ⟨g,off,e1.trans ha⟩
     have HAD:=zz had;clear had;have Qiq:=zz (show Rd w3 w3.heap.size J30 ((csA.take i).flatMap Xe) from by have h2:=Qaf.out.take (i*2);rwa [Yg Xe 2 Ya] at h2);have HS:=zz (KS.start w3 x.r.key (csA.take i) i)
     have a5: ∀W,Kp No w3 W->W.cell? ⟨s,5,none⟩=some (.slice J30 nA Q0t):=λW hW=>by
      have:=Db.out.at_ hW 5;rw [<-Hy.out] at this;exact this
     have p2: ∀W,Kp No w3 W->W.cell? ⟨p,2,none⟩=some (.string x.r.key):=λW hW=>Q4 (hW.get HB3.out λx=>x) 2;have ls3:=Q7 Db.out.cell;have Jgo:i<=Q0t:=by omega
     have J9e:=Q7 HB3.out;go_upto_region 6 with fail
     go_cut [8] from 29 to 43 (λs8 wx=> ∃(cb:Nat) (a2:Option Addr) (c2:Nat),s8= .slice a2 (i+1) c2/\Hid (Q6h w3 wx csA i x.r.key cb a2 c2))
     case first=>
      have had:=HAD.out;clear HAD;rcases had with rfl|⟨gA,Q0z,rfl⟩
      all_goals
       refine Ga (Kp No w3) [2,0,0,0,0,0,0,2,0,0,0,2,0,2,2,0] (.fork [1,2,3,4,5,6,8,9,10] 0 11 (.fork [] 7 11 (.leaf [11,12,13,14,15]) (.fork [12] 7 13 (.leaf [13,14,15]) (.leaf [7,14,15]))) (.fork [12] 0 13 (.fork [] 7 13 (.leaf [13,14,15]) (.leaf [7,14,15])) (.leaf [0,7,14,15]))) (by kernel_rfl) (by kernel_rfl) (λ_ n h=>h.drewN n) zK ?_;refine V1 ?_;repeat (first|refine zA ?_|refine zB ?_|refine zC ?_)
       clear a5 p2;refine V0 (λn=>zK.drewN n) (λm0=>?_) (λm0=>?_)
       ·
        refine Q8 rfl rfl (λq=>?_);obtain ⟨we,hwe⟩: ∃W,W=World.drewN (w3.drewN m0) q:=⟨_,rfl⟩;have hS0:=KS.drawn (n:=q) (KS.drawn (n:=m0) HS.out);rw [<-hwe] at hS0⊢;clear HS hwe;go_wp2_with fail
        obtain ⟨v1,hV⟩: ∃V,V=we.alloc (.cells #[] 158):=⟨_,rfl⟩;obtain ⟨eb,heb⟩: ∃e,e=we.heap.size:=⟨_,rfl⟩;have hS1:=hS0.s0 hV heb;have HS:=zz hS1;rw [<-hV,<-heb];clear hV heb hS1 hS0;refine ⟨HS.out.kp,?_⟩;refine Jy (λm1=>?_);refine V1 ?_;refine V0 (λn=>(HS.out.kp.drewN m1).drewN n) (λm2=>?_) (λm2=>?_)
        ·
         refine Q8 rfl rfl (λq=>?_);obtain ⟨we,hwe⟩: ∃W,W=World.drewN ((v1.drewN m1).drewN m2) q:=⟨_,rfl⟩;have hS0:=KS.drawn (n:=q) (KS.drawn (n:=m2) (KS.drawn (n:=m1) HS.out));rw [<-hwe] at hS0⊢;clear HS hwe;obtain ⟨a1,c1,v2,hrun,hS1⟩:=hS0.s7 (c:=Q0t) Qiq.out Gg.out.1 Gg.out.2;have HS:=zz hS1;have Bt:=zz hrun;clear hrun hS1 hS0;refine wpList_append_run rfl rfl rfl rfl Bt.out ?_;refine wpList_nil ?_;refine ⟨rfl,HS.out.kp,?_⟩;clear Bt;refine Jy (λm3=>?_);refine Y3 ?_;refine Q8 rfl rfl (λq=>?_);obtain ⟨we,hwe⟩: ∃W,W=World.drewN (v2.drewN m3) q:=⟨_,rfl⟩;have hS0:=KS.drawn (n:=q) (KS.drawn (n:=m3) HS.out);rw [<-hwe] at hS0⊢;clear HS hwe;go_wp2_with fail
         obtain ⟨v3,hV⟩: ∃V,V=we.alloc (.cells #[.slice none 0 0] 148):=⟨_,rfl⟩;obtain ⟨cb,hcb⟩: ∃e,e=we.heap.size:=⟨_,rfl⟩;have hS1:=hS0.s11 hV hcb;have HS:=zz hS1;rw [<-hV,<-hcb];clear hV hcb hS1 hS0;refine ⟨HS.out.kp,?_⟩;repeat (first|refine zA ?_|refine zB ?_|refine zC ?_)
         refine Q8 rfl rfl (λq=>?_);obtain ⟨we,hwe⟩: ∃W,W=World.drewN v3 q:=⟨_,rfl⟩;have hS0:=KS.drawn (n:=q) (HS.out);rw [<-hwe] at hS0⊢;clear HS hwe;go_wp2_with fail
         obtain ⟨v4,hV⟩: ∃V,V=we.alloc (.cells #[.string x.r.key, .pointer (some ⟨cb,0,none⟩)] 158):=⟨_,rfl⟩;obtain ⟨gb,hgb⟩: ∃e,e=we.heap.size:=⟨_,rfl⟩;have hS1:=hS0.s13 hV hgb;have HS:=zz hS1;rw [<-hV,<-hgb];clear hV hgb hS1 hS0;refine ⟨HS.out.kp,?_⟩;refine Q8 rfl rfl (λq=>?_);obtain ⟨we,hwe⟩: ∃W,W=World.drewN v4 q:=⟨_,rfl⟩;have hS0:=KS.drawn (n:=q) (HS.out);rw [<-hwe] at hS0⊢;clear HS hwe;obtain ⟨a2,c2,wE,hrun,hrel,hcbl,Dw⟩:=hS0.s14 Gg.out.1 Gg.out.2;have Dj:=zz hrun;have HE:=zz (And.intro hrel (And.intro hcbl Dw));clear hrun hrel hcbl Dw hS0;refine wpList_append_run rfl rfl rfl rfl Dj.out ?_;refine wpList_nil ?_;refine ⟨rfl,HE.out.1.2.2.2,?_⟩;clear Dj;repeat (first|refine zA ?_|refine zB ?_|refine zC ?_)
         refine Qa (λnq=>?_);obtain ⟨w4,hw4⟩: ∃W,W=wE.drewN nq:=⟨_,rfl⟩;have k4:Kp No wE w4:=by rw [hw4];exact (Kp.refl No wE).drewN nq
         have M9:=zz (show Q6h w3 w4 csA i x.r.key cb a2 c2 from ⟨HE.out.1.keep k4,HE.out.2.1,k4.get HE.out.2.2 λx=>x⟩);rw [<-hw4];clear hw4 k4 HE;go_wp2_with fail
         go_meet
         case rel=>exact ⟨cb,a2,c2,rfl,M9⟩
        ·
         refine Q8 rfl rfl (λq=>?_);obtain ⟨we,hwe⟩: ∃W,W=World.drewN ((v1.drewN m1).drewN m2) q:=⟨_,rfl⟩;have hS0:=KS.drawn (n:=q) (KS.drawn (n:=m2) (KS.drawn (n:=m1) HS.out));rw [<-hwe] at hS0⊢;clear HS hwe;go_wp2_with fail
         obtain ⟨v2,hV⟩: ∃V,V=we.alloc (.cells #[.slice none 0 0] 148):=⟨_,rfl⟩;obtain ⟨cb,hcb⟩: ∃e,e=we.heap.size:=⟨_,rfl⟩;have hS1:=hS0.s11 hV hcb;have HS:=zz hS1;rw [<-hV,<-hcb];clear hV hcb hS1 hS0;refine ⟨HS.out.kp,?_⟩;refine Jy (λm3=>?_);refine V1 ?_;repeat (first|refine zA ?_|refine zB ?_|refine zC ?_)
         refine V0 (λn=>(HS.out.kp.drewN m3).drewN n) (λm4=>?_) (λm4=>?_)
         ·
          refine Q8 rfl rfl (λq=>?_);obtain ⟨we,hwe⟩: ∃W,W=World.drewN ((v2.drewN m3).drewN m4) q:=⟨_,rfl⟩;have hS0:=KS.drawn (n:=q) (KS.drawn (n:=m4) (KS.drawn (n:=m3) HS.out));rw [<-hwe] at hS0⊢;clear HS hwe;obtain ⟨a1,c1,v3,hrun,hS1⟩:=hS0.s7 (c:=Q0t) Qiq.out Gg.out.1 Gg.out.2;have HS:=zz hS1;have Bt:=zz hrun;clear hrun hS1 hS0;refine wpList_append_run rfl rfl rfl rfl Bt.out ?_;refine wpList_nil ?_;refine ⟨rfl,HS.out.kp,?_⟩;clear Bt;refine Jy (λm5=>?_);refine Y3 ?_;refine Q8 rfl rfl (λq=>?_);obtain ⟨we,hwe⟩: ∃W,W=World.drewN (v3.drewN m5) q:=⟨_,rfl⟩;have hS0:=KS.drawn (n:=q) (KS.drawn (n:=m5) HS.out);rw [<-hwe] at hS0⊢;clear HS hwe;go_wp2_with fail
          obtain ⟨v4,hV⟩: ∃V,V=we.alloc (.cells #[.string x.r.key, .pointer (some ⟨cb,0,none⟩)] 158):=⟨_,rfl⟩;obtain ⟨gb,hgb⟩: ∃e,e=we.heap.size:=⟨_,rfl⟩;have hS1:=hS0.s13 hV hgb;have HS:=zz hS1;rw [<-hV,<-hgb];clear hV hgb hS1 hS0;refine ⟨HS.out.kp,?_⟩;refine Q8 rfl rfl (λq=>?_);obtain ⟨we,hwe⟩: ∃W,W=World.drewN v4 q:=⟨_,rfl⟩;have hS0:=KS.drawn (n:=q) (HS.out);rw [<-hwe] at hS0⊢;clear HS hwe;obtain ⟨a2,c2,wE,hrun,hrel,hcbl,Dw⟩:=hS0.s14 Gg.out.1 Gg.out.2;have Dj:=zz hrun;have HE:=zz (And.intro hrel (And.intro hcbl Dw));clear hrun hrel hcbl Dw hS0;refine wpList_append_run rfl rfl rfl rfl Dj.out ?_;refine wpList_nil ?_;refine ⟨rfl,HE.out.1.2.2.2,?_⟩;clear Dj;repeat (first|refine zA ?_|refine zB ?_|refine zC ?_)
          refine Qa (λnq=>?_);obtain ⟨w4,hw4⟩: ∃W,W=wE.drewN nq:=⟨_,rfl⟩;have k4:Kp No wE w4:=by rw [hw4];exact (Kp.refl No wE).drewN nq
          have M9:=zz (show Q6h w3 w4 csA i x.r.key cb a2 c2 from ⟨HE.out.1.keep k4,HE.out.2.1,k4.get HE.out.2.2 λx=>x⟩);rw [<-hw4];clear hw4 k4 HE;go_wp2_with fail
          go_meet
          case rel=>exact ⟨cb,a2,c2,rfl,M9⟩
         ·
          refine Q8 rfl rfl (λq=>?_);obtain ⟨we,hwe⟩: ∃W,W=World.drewN ((v2.drewN m3).drewN m4) q:=⟨_,rfl⟩;have hS0:=KS.drawn (n:=q) (KS.drawn (n:=m4) (KS.drawn (n:=m3) HS.out));rw [<-hwe] at hS0⊢;clear HS hwe;go_wp2_with fail
          obtain ⟨v3,hV⟩: ∃V,V=we.alloc (.cells #[.string x.r.key, .pointer (some ⟨cb,0,none⟩)] 158):=⟨_,rfl⟩;obtain ⟨gb,hgb⟩: ∃e,e=we.heap.size:=⟨_,rfl⟩;have hS1:=hS0.s13 hV hgb;have HS:=zz hS1;rw [<-hV,<-hgb];clear hV hgb hS1 hS0;refine ⟨HS.out.kp,?_⟩;refine Jy (λm5=>?_);refine Y3 ?_;refine Q8 rfl rfl (λq=>?_);obtain ⟨we,hwe⟩: ∃W,W=World.drewN (v3.drewN m5) q:=⟨_,rfl⟩;have hS0:=KS.drawn (n:=q) (KS.drawn (n:=m5) HS.out);rw [<-hwe] at hS0⊢;clear HS hwe;obtain ⟨a1,c1,v4,hrun,hS1⟩:=hS0.s7 (c:=Q0t) Qiq.out Gg.out.1 Gg.out.2;have HS:=zz hS1;have Bt:=zz hrun;clear hrun hS1 hS0;refine wpList_append_run rfl rfl rfl rfl Bt.out ?_;refine wpList_nil ?_;refine ⟨rfl,HS.out.kp,?_⟩;clear Bt;refine Q8 rfl rfl (λq=>?_);obtain ⟨we,hwe⟩: ∃W,W=World.drewN v4 q:=⟨_,rfl⟩;have hS0:=KS.drawn (n:=q) (HS.out);rw [<-hwe] at hS0⊢;clear HS hwe;obtain ⟨a2,c2,wE,hrun,hrel,hcbl,Dw⟩:=hS0.s14 Gg.out.1 Gg.out.2;have Dj:=zz hrun;have HE:=zz (And.intro hrel (And.intro hcbl Dw));clear hrun hrel hcbl Dw hS0;refine wpList_append_run rfl rfl rfl rfl Dj.out ?_;refine wpList_nil ?_;refine ⟨rfl,HE.out.1.2.2.2,?_⟩;clear Dj;repeat (first|refine zA ?_|refine zB ?_|refine zC ?_)
          refine Qa (λnq=>?_);obtain ⟨w4,hw4⟩: ∃W,W=wE.drewN nq:=⟨_,rfl⟩;have k4:Kp No wE w4:=by rw [hw4];exact (Kp.refl No wE).drewN nq
          have M9:=zz (show Q6h w3 w4 csA i x.r.key cb a2 c2 from ⟨HE.out.1.keep k4,HE.out.2.1,k4.get HE.out.2.2 λx=>x⟩);rw [<-hw4];clear hw4 k4 HE;go_wp2_with fail
          go_meet
          case rel=>exact ⟨cb,a2,c2,rfl,M9⟩
       ·
        refine Q8 rfl rfl (λq=>?_);obtain ⟨we,hwe⟩: ∃W,W=World.drewN (w3.drewN m0) q:=⟨_,rfl⟩;have hS0:=KS.drawn (n:=q) (KS.drawn (n:=m0) HS.out);rw [<-hwe] at hS0⊢;clear HS hwe;go_wp2_with fail
        obtain ⟨v1,hV⟩: ∃V,V=we.alloc (.cells #[.slice none 0 0] 148):=⟨_,rfl⟩;obtain ⟨cb,hcb⟩: ∃e,e=we.heap.size:=⟨_,rfl⟩;have hS1:=hS0.s11 hV hcb;have HS:=zz hS1;rw [<-hV,<-hcb];clear hV hcb hS1 hS0;refine ⟨HS.out.kp,?_⟩;refine Jy (λm1=>?_);refine V1 ?_;repeat (first|refine zA ?_|refine zB ?_|refine zC ?_)
        refine V0 (λn=>(HS.out.kp.drewN m1).drewN n) (λm2=>?_) (λm2=>?_)
        ·
         refine Q8 rfl rfl (λq=>?_);obtain ⟨we,hwe⟩: ∃W,W=World.drewN ((v1.drewN m1).drewN m2) q:=⟨_,rfl⟩;have hS0:=KS.drawn (n:=q) (KS.drawn (n:=m2) (KS.drawn (n:=m1) HS.out));rw [<-hwe] at hS0⊢;clear HS hwe;go_wp2_with fail
         obtain ⟨v2,hV⟩: ∃V,V=we.alloc (.cells #[] 158):=⟨_,rfl⟩;obtain ⟨eb,heb⟩: ∃e,e=we.heap.size:=⟨_,rfl⟩;have hS1:=hS0.s0 hV heb;have HS:=zz hS1;rw [<-hV,<-heb];clear hV heb hS1 hS0;refine ⟨HS.out.kp,?_⟩;refine Jy (λm3=>?_);refine V1 ?_;refine V0 (λn=>(HS.out.kp.drewN m3).drewN n) (λm4=>?_) (λm4=>?_)
         ·
          refine Q8 rfl rfl (λq=>?_);obtain ⟨we,hwe⟩: ∃W,W=World.drewN ((v2.drewN m3).drewN m4) q:=⟨_,rfl⟩;have hS0:=KS.drawn (n:=q) (KS.drawn (n:=m4) (KS.drawn (n:=m3) HS.out));rw [<-hwe] at hS0⊢;clear HS hwe;obtain ⟨a1,c1,v3,hrun,hS1⟩:=hS0.s7 (c:=Q0t) Qiq.out Gg.out.1 Gg.out.2;have HS:=zz hS1;have Bt:=zz hrun;clear hrun hS1 hS0;refine wpList_append_run rfl rfl rfl rfl Bt.out ?_;refine wpList_nil ?_;refine ⟨rfl,HS.out.kp,?_⟩;clear Bt;refine Jy (λm5=>?_);refine Y3 ?_;refine Q8 rfl rfl (λq=>?_);obtain ⟨we,hwe⟩: ∃W,W=World.drewN (v3.drewN m5) q:=⟨_,rfl⟩;have hS0:=KS.drawn (n:=q) (KS.drawn (n:=m5) HS.out);rw [<-hwe] at hS0⊢;clear HS hwe;go_wp2_with fail
          obtain ⟨v4,hV⟩: ∃V,V=we.alloc (.cells #[.string x.r.key, .pointer (some ⟨cb,0,none⟩)] 158):=⟨_,rfl⟩;obtain ⟨gb,hgb⟩: ∃e,e=we.heap.size:=⟨_,rfl⟩;have hS1:=hS0.s13 hV hgb;have HS:=zz hS1;rw [<-hV,<-hgb];clear hV hgb hS1 hS0;refine ⟨HS.out.kp,?_⟩;refine Q8 rfl rfl (λq=>?_);obtain ⟨we,hwe⟩: ∃W,W=World.drewN v4 q:=⟨_,rfl⟩;have hS0:=KS.drawn (n:=q) (HS.out);rw [<-hwe] at hS0⊢;clear HS hwe;obtain ⟨a2,c2,wE,hrun,hrel,hcbl,Dw⟩:=hS0.s14 Gg.out.1 Gg.out.2;have Dj:=zz hrun;have HE:=zz (And.intro hrel (And.intro hcbl Dw));clear hrun hrel hcbl Dw hS0;refine wpList_append_run rfl rfl rfl rfl Dj.out ?_;refine wpList_nil ?_;refine ⟨rfl,HE.out.1.2.2.2,?_⟩;clear Dj;repeat (first|refine zA ?_|refine zB ?_|refine zC ?_)
          refine Qa (λnq=>?_);obtain ⟨w4,hw4⟩: ∃W,W=wE.drewN nq:=⟨_,rfl⟩;have k4:Kp No wE w4:=by rw [hw4];exact (Kp.refl No wE).drewN nq
          have M9:=zz (show Q6h w3 w4 csA i x.r.key cb a2 c2 from ⟨HE.out.1.keep k4,HE.out.2.1,k4.get HE.out.2.2 λx=>x⟩);rw [<-hw4];clear hw4 k4 HE;go_wp2_with fail
          go_meet
          case rel=>exact ⟨cb,a2,c2,rfl,M9⟩
         ·
          refine Q8 rfl rfl (λq=>?_);obtain ⟨we,hwe⟩: ∃W,W=World.drewN ((v2.drewN m3).drewN m4) q:=⟨_,rfl⟩;have hS0:=KS.drawn (n:=q) (KS.drawn (n:=m4) (KS.drawn (n:=m3) HS.out));rw [<-hwe] at hS0⊢;clear HS hwe;go_wp2_with fail
          obtain ⟨v3,hV⟩: ∃V,V=we.alloc (.cells #[.string x.r.key, .pointer (some ⟨cb,0,none⟩)] 158):=⟨_,rfl⟩;obtain ⟨gb,hgb⟩: ∃e,e=we.heap.size:=⟨_,rfl⟩;have hS1:=hS0.s13 hV hgb;have HS:=zz hS1;rw [<-hV,<-hgb];clear hV hgb hS1 hS0;refine ⟨HS.out.kp,?_⟩;refine Jy (λm5=>?_);refine Y3 ?_;refine Q8 rfl rfl (λq=>?_);obtain ⟨we,hwe⟩: ∃W,W=World.drewN (v3.drewN m5) q:=⟨_,rfl⟩;have hS0:=KS.drawn (n:=q) (KS.drawn (n:=m5) HS.out);rw [<-hwe] at hS0⊢;clear HS hwe;obtain ⟨a1,c1,v4,hrun,hS1⟩:=hS0.s7 (c:=Q0t) Qiq.out Gg.out.1 Gg.out.2;have HS:=zz hS1;have Bt:=zz hrun;clear hrun hS1 hS0;refine wpList_append_run rfl rfl rfl rfl Bt.out ?_;refine wpList_nil ?_;refine ⟨rfl,HS.out.kp,?_⟩;clear Bt;refine Q8 rfl rfl (λq=>?_);obtain ⟨we,hwe⟩: ∃W,W=World.drewN v4 q:=⟨_,rfl⟩;have hS0:=KS.drawn (n:=q) (HS.out);rw [<-hwe] at hS0⊢;clear HS hwe;obtain ⟨a2,c2,wE,hrun,hrel,hcbl,Dw⟩:=hS0.s14 Gg.out.1 Gg.out.2;have Dj:=zz hrun;have HE:=zz (And.intro hrel (And.intro hcbl Dw));clear hrun hrel hcbl Dw hS0;refine wpList_append_run rfl rfl rfl rfl Dj.out ?_;refine wpList_nil ?_;refine ⟨rfl,HE.out.1.2.2.2,?_⟩;clear Dj;repeat (first|refine zA ?_|refine zB ?_|refine zC ?_)
          refine Qa (λnq=>?_);obtain ⟨w4,hw4⟩: ∃W,W=wE.drewN nq:=⟨_,rfl⟩;have k4:Kp No wE w4:=by rw [hw4];exact (Kp.refl No wE).drewN nq
          have M9:=zz (show Q6h w3 w4 csA i x.r.key cb a2 c2 from ⟨HE.out.1.keep k4,HE.out.2.1,k4.get HE.out.2.2 λx=>x⟩);rw [<-hw4];clear hw4 k4 HE;go_wp2_with fail
          go_meet
          case rel=>exact ⟨cb,a2,c2,rfl,M9⟩
        ·
         refine Q8 rfl rfl (λq=>?_);obtain ⟨we,hwe⟩: ∃W,W=World.drewN ((v1.drewN m1).drewN m2) q:=⟨_,rfl⟩;have hS0:=KS.drawn (n:=q) (KS.drawn (n:=m2) (KS.drawn (n:=m1) HS.out));rw [<-hwe] at hS0⊢;clear HS hwe;go_wp2_with fail
         obtain ⟨v2,hV⟩: ∃V,V=we.alloc (.cells #[.string x.r.key, .pointer (some ⟨cb,0,none⟩)] 158):=⟨_,rfl⟩;obtain ⟨gb,hgb⟩: ∃e,e=we.heap.size:=⟨_,rfl⟩;have hS1:=hS0.s13 hV hgb;have HS:=zz hS1;rw [<-hV,<-hgb];clear hV hgb hS1 hS0;refine ⟨HS.out.kp,?_⟩;refine Jy (λm3=>?_);refine Y3 ?_;refine Q8 rfl rfl (λq=>?_);obtain ⟨we,hwe⟩: ∃W,W=World.drewN (v2.drewN m3) q:=⟨_,rfl⟩;have hS0:=KS.drawn (n:=q) (KS.drawn (n:=m3) HS.out);rw [<-hwe] at hS0⊢;clear HS hwe;go_wp2_with fail
         obtain ⟨v3,hV⟩: ∃V,V=we.alloc (.cells #[] 158):=⟨_,rfl⟩;obtain ⟨eb,heb⟩: ∃e,e=we.heap.size:=⟨_,rfl⟩;have hS1:=hS0.s0 hV heb;have HS:=zz hS1;rw [<-hV,<-heb];clear hV heb hS1 hS0;refine ⟨HS.out.kp,?_⟩;refine Q8 rfl rfl (λq=>?_);obtain ⟨we,hwe⟩: ∃W,W=World.drewN v3 q:=⟨_,rfl⟩;have hS0:=KS.drawn (n:=q) (HS.out);rw [<-hwe] at hS0⊢;clear HS hwe;obtain ⟨a1,c1,v4,hrun,hS1⟩:=hS0.s7 (c:=Q0t) Qiq.out Gg.out.1 Gg.out.2;have HS:=zz hS1;have Bt:=zz hrun;clear hrun hS1 hS0;refine wpList_append_run rfl rfl rfl rfl Bt.out ?_;refine wpList_nil ?_;refine ⟨rfl,HS.out.kp,?_⟩;clear Bt;refine Q8 rfl rfl (λq=>?_);obtain ⟨we,hwe⟩: ∃W,W=World.drewN v4 q:=⟨_,rfl⟩;have hS0:=KS.drawn (n:=q) (HS.out);rw [<-hwe] at hS0⊢;clear HS hwe;obtain ⟨a2,c2,wE,hrun,hrel,hcbl,Dw⟩:=hS0.s14 Gg.out.1 Gg.out.2;have Dj:=zz hrun;have HE:=zz (And.intro hrel (And.intro hcbl Dw));clear hrun hrel hcbl Dw hS0;refine wpList_append_run rfl rfl rfl rfl Dj.out ?_;refine wpList_nil ?_;refine ⟨rfl,HE.out.1.2.2.2,?_⟩;clear Dj;repeat (first|refine zA ?_|refine zB ?_|refine zC ?_)
         refine Qa (λnq=>?_);obtain ⟨w4,hw4⟩: ∃W,W=wE.drewN nq:=⟨_,rfl⟩;have k4:Kp No wE w4:=by rw [hw4];exact (Kp.refl No wE).drewN nq
         have M9:=zz (show Q6h w3 w4 csA i x.r.key cb a2 c2 from ⟨HE.out.1.keep k4,HE.out.2.1,k4.get HE.out.2.2 λx=>x⟩);rw [<-hw4];clear hw4 k4 HE;go_wp2_with fail
         go_meet
         case rel=>exact ⟨cb,a2,c2,rfl,M9⟩
     case rest=>
     obtain ⟨cb,a2,c2,rfl,M9⟩:=hcut;rename World=>w4;clear a5 p2 HS ls3 J9e;have had:=HAD.out;clear HAD;rcases Nat.lt_or_ge i nA with hin|hin
     ·rcases had with rfl|⟨gA,Q0z,rfl⟩
      ·have:=Db.out.row;obtain ⟨_,a,c,e,h1,_,h3,_⟩:=this;injection e with e1 e2 e3;have:=h3 e1.symm;have:=Hy.out;omega
      ·
       have HDK:=zz (show Rd w3 w3.heap.size (some ⟨gA,Q0z+i*2,none⟩) ((csA.drop i).flatMap Xe) from by
        have h2:=Qaf.out.drop (i*2);rw [Un Xe 2 Ya] at h2;simpa [Option.map,Z8] using h2)
       have Lj:=zz (show (csA.drop i).length=(nA-i)/\i+1+(nA-i)=nA+1 from ⟨by have:=Hy.out;rw [length_drop];omega,by omega⟩);obtain ⟨a3,c3,w5,hrun,hrel,hk5⟩:=Jd.app (P:=prog) (T:=59) Tryz.underlying59 Np Kg M9.out.1 (csA.drop i) (Ub (f:=Xe) (c:=(Q0t-i)) Ya (Rd.kp HDK.out M9.out.1.2.2.2)) rfl (by have:=Gg.out.2;have:=Lj.out.1;unfold maxLen;omega) (by have:=Gg.out.2;have:=Lj.out.1;omega);rw [Lj.out.1,Lj.out.2,append_assoc] at hrel;rw [Lj.out.1,Lj.out.2] at hrun;have Hs:=Db.out.Q9 hrel.2.2.2
       have Q9w:=zz (Ac Db.out Qf2.out Mp.out HF3.out Zk.out HW3.out HB3.out Qez.out HZ3.out Q6e.out.1 Q6e.out.2.2 M9.out (show Jd 158 2 Xe w3 w5 (.slice a3 (csA.length+1) c3) (csA.length+1) (csA.take i++(x.r.key,⟨cb,none,0,[]⟩)::csA.drop i) from by
        have e:nA+1=csA.length+1:=by have:=Hy.out;omega
        rw [<-e];exact hrel) hk5)
       have c5:w5.cell? ⟨s,5,none⟩=some (.slice (some ⟨gA,Q0z,none⟩) nA Q0t):=by
        have:=Hs.at_ (Kp.refl _ w5) 5;rw [<-Hy.out] at this;exact this
       have f5:=Qh Hs.cell 5;have l5:=Q7 Hs.cell
       have c4:w4.cell? ⟨s,5,none⟩=some (.slice (some ⟨gA,Q0z,none⟩) nA Q0t):=by
        have:=(Db.out.Q9 M9.out.1.2.2.2).at_ (Kp.refl _ w4) 5;rw [<-Hy.out] at this;exact this
       have l4:=Q7 (Db.out.Q9 M9.out.1.2.2.2).cell;rw [<-Hy.out] at Q9w;have HX:=zz hrun;clear hrun hrel hk5 Hs;go_wp2_with (at_builtin;refine wpList_append_run rfl rfl rfl rfl HX.out ?_;clear HX)
       go_meet
       case rel=>exact Q9w
     ·have hie:i=nA:=by omega
      clear hin;subst hie;rcases had with rfl|⟨gA,Q0z,rfl⟩
      ·
       have HDK:=zz (show Rd w3 w3.heap.size none ((csA.drop i).flatMap Xe) from by
        rw [List.drop_of_length_le (by have:=Hy.out;omega)];exact Rd.nil _ _ _)
       have Lj:=zz (show (csA.drop i).length=0/\i+1+0=i+1 from ⟨by have:=Hy.out;rw [length_drop];omega,by omega⟩);obtain ⟨a3,c3,w5,hrun,hrel,hk5⟩:=Jd.app (P:=prog) (T:=59) Tryz.underlying59 Np Kg M9.out.1 (csA.drop i) (Ub (f:=Xe) (c:=(Q0t-i)) Ya (Rd.kp HDK.out M9.out.1.2.2.2)) rfl (by have:=Gg.out.2;have:=Lj.out.1;unfold maxLen;omega) (by have:=Gg.out.2;have:=Lj.out.1;omega);rw [Lj.out.1,Lj.out.2,append_assoc] at hrel;rw [Lj.out.1,Lj.out.2] at hrun;have Hs:=Db.out.Q9 hrel.2.2.2
       have Q9w:=zz (Ac Db.out Qf2.out Mp.out HF3.out Zk.out HW3.out HB3.out Qez.out HZ3.out Q6e.out.1 Q6e.out.2.2 M9.out (show Jd 158 2 Xe w3 w5 (.slice a3 (csA.length+1) c3) (csA.length+1) (csA.take i++(x.r.key,⟨cb,none,0,[]⟩)::csA.drop i) from by
        have e:i+1=csA.length+1:=by have:=Hy.out;omega
        rw [<-e];exact hrel) hk5)
       have c5:w5.cell? ⟨s,5,none⟩=some (.slice none i Q0t):=by
        have:=Hs.at_ (Kp.refl _ w5) 5;rw [<-Hy.out] at this;exact this
       have f5:=Qh Hs.cell 5;have l5:=Q7 Hs.cell
       have c4:w4.cell? ⟨s,5,none⟩=some (.slice none i Q0t):=by
        have:=(Db.out.Q9 M9.out.1.2.2.2).at_ (Kp.refl _ w4) 5;rw [<-Hy.out] at this;exact this
       have l4:=Q7 (Db.out.Q9 M9.out.1.2.2.2).cell;rw [<-Hy.out] at Q9w;have HX:=zz hrun;clear hrun hrel hk5 Hs;go_wp2_with (at_builtin;refine wpList_append_run rfl rfl rfl rfl HX.out ?_;clear HX)
       go_meet
       case rel=>exact Q9w
      ·by_cases hrk:Q0t=i
       ·
        have HDK:=zz (show Rd w3 w3.heap.size (some ⟨gA,Q0z,none⟩) ((csA.drop i).flatMap Xe) from by
         rw [List.drop_of_length_le (by have:=Hy.out;omega)];exact Rd.nil _ _ _)
        have Lj:=zz (show (csA.drop i).length=0/\i+1+0=i+1 from ⟨by have:=Hy.out;rw [length_drop];omega,by omega⟩);obtain ⟨a3,c3,w5,hrun,hrel,hk5⟩:=Jd.app (P:=prog) (T:=59) Tryz.underlying59 Np Kg M9.out.1 (csA.drop i) (Ub (f:=Xe) (c:=(Q0t-i)) Ya (Rd.kp HDK.out M9.out.1.2.2.2)) rfl (by have:=Gg.out.2;have:=Lj.out.1;unfold maxLen;omega) (by have:=Gg.out.2;have:=Lj.out.1;omega);rw [Lj.out.1,Lj.out.2,append_assoc] at hrel;rw [Lj.out.1,Lj.out.2] at hrun;have Hs:=Db.out.Q9 hrel.2.2.2
        have Q9w:=zz (Ac Db.out Qf2.out Mp.out HF3.out Zk.out HW3.out HB3.out Qez.out HZ3.out Q6e.out.1 Q6e.out.2.2 M9.out (show Jd 158 2 Xe w3 w5 (.slice a3 (csA.length+1) c3) (csA.length+1) (csA.take i++(x.r.key,⟨cb,none,0,[]⟩)::csA.drop i) from by
         have e:i+1=csA.length+1:=by have:=Hy.out;omega
         rw [<-e];exact hrel) hk5)
        have c5:w5.cell? ⟨s,5,none⟩=some (.slice (some ⟨gA,Q0z,none⟩) i Q0t):=by
         have:=Hs.at_ (Kp.refl _ w5) 5;rw [<-Hy.out] at this;exact this
        have f5:=Qh Hs.cell 5;have l5:=Q7 Hs.cell
        have c4:w4.cell? ⟨s,5,none⟩=some (.slice (some ⟨gA,Q0z,none⟩) i Q0t):=by
         have:=(Db.out.Q9 M9.out.1.2.2.2).at_ (Kp.refl _ w4) 5;rw [<-Hy.out] at this;exact this
        have l4:=Q7 (Db.out.Q9 M9.out.1.2.2.2).cell;rw [<-Hy.out] at Q9w;have HX:=zz hrun;clear hrun hrel hk5 Hs;go_wp2_with (at_builtin;refine wpList_append_run rfl rfl rfl rfl HX.out ?_;clear HX)
        go_meet
        case rel=>exact Q9w
       ·
        have HDK:=zz (show Rd w3 w3.heap.size (some ⟨gA,Q0z+i*2,none⟩) ((csA.drop i).flatMap Xe) from by
         rw [List.drop_of_length_le (by have:=Hy.out;omega)];exact Rd.nil _ _ _)
        have Lj:=zz (show (csA.drop i).length=0/\i+1+0=i+1 from ⟨by have:=Hy.out;rw [length_drop];omega,by omega⟩);obtain ⟨a3,c3,w5,hrun,hrel,hk5⟩:=Jd.app (P:=prog) (T:=59) Tryz.underlying59 Np Kg M9.out.1 (csA.drop i) (Ub (f:=Xe) (c:=(Q0t-i)) Ya (Rd.kp HDK.out M9.out.1.2.2.2)) rfl (by have:=Gg.out.2;have:=Lj.out.1;unfold maxLen;omega) (by have:=Gg.out.2;have:=Lj.out.1;omega);rw [Lj.out.1,Lj.out.2,append_assoc] at hrel;rw [Lj.out.1,Lj.out.2] at hrun;have Hs:=Db.out.Q9 hrel.2.2.2
        have Q9w:=zz (Ac Db.out Qf2.out Mp.out HF3.out Zk.out HW3.out HB3.out Qez.out HZ3.out Q6e.out.1 Q6e.out.2.2 M9.out (show Jd 158 2 Xe w3 w5 (.slice a3 (csA.length+1) c3) (csA.length+1) (csA.take i++(x.r.key,⟨cb,none,0,[]⟩)::csA.drop i) from by
         have e:i+1=csA.length+1:=by have:=Hy.out;omega
         rw [<-e];exact hrel) hk5)
        have c5:w5.cell? ⟨s,5,none⟩=some (.slice (some ⟨gA,Q0z,none⟩) i Q0t):=by
         have:=Hs.at_ (Kp.refl _ w5) 5;rw [<-Hy.out] at this;exact this
        have f5:=Qh Hs.cell 5;have l5:=Q7 Hs.cell
        have c4:w4.cell? ⟨s,5,none⟩=some (.slice (some ⟨gA,Q0z,none⟩) i Q0t):=by
         have:=(Db.out.Q9 M9.out.1.2.2.2).at_ (Kp.refl _ w4) 5;rw [<-Hy.out] at this;exact this
        have l4:=Q7 (Db.out.Q9 M9.out.1.2.2.2).cell;rw [<-Hy.out] at Q9w;have HX:=zz hrun;clear hrun hrel hk5 Hs;go_wp2_with (at_builtin;refine wpList_append_run rfl rfl rfl rfl HX.out ?_;clear HX)
        go_meet
        case rel=>exact Q9w
   case rest=>
   have Jae:=hcut;rename World=>w5;obtain ⟨Qg4,Qc1,cs2,keysA,hC2,hsc2,⟨hi2,Qvk,Q4z⟩,Qt4,hF2,hK2,hB2,J27,hz2,hl2,J10⟩:=Jae.out;obtain ⟨g2,Im,rfl,hrow2⟩:=Zb (f:=Xe) (c:=2) Ya (by decide) (Own.rd' hC2.row) hi2;obtain ⟨q,hq⟩: ∃q,q=cs2[i]:=⟨_,rfl⟩;rw [<-hq] at Qvk Q4z hrow2;obtain ⟨n2,hn2⟩: ∃n2,n2=cs2.length:=⟨_,rfl⟩;have hin2:i<n2:=by omega
   have a5: ∀W,Kp No w5 W->W.cell? ⟨s,5,none⟩=some (.slice (some ⟨g2,Im,none⟩) n2 Qc1):=λW hW=>by
    have:=hC2.at_ hW 5;rw [<-hn2] at this;exact this
   have a1: ∀W,Kp No w5 W->W.cell? ⟨g2,Im+i*2+1,none⟩=some (.pointer (some ⟨q.2.b,0,none⟩)):=λW hW=>hrow2 W hW 1 _ rfl;have RV:=zz (show ∀W,Kp No w5 W->W.rangeAt p 3 [.int .i64 x.r.v.m, .int .i64 x.r.v.c, .int .i64 x.r.v.o, .slice ya x.r.v.val.length yc, .bool x.r.v.gone, .int .i64 x.r.v.ttl] from λW hW=>by have:=Qg (hW.get hB2 λx=>x) 3 6;exact this);have hco:=hC2.Fx.each q (by rw [hq];exact getElem_mem hi2);have hlq:=hl2 q (by rw [hq];exact getElem_mem hi2)
   have hput: ∀W,Kp No w5 W->Calls prog 77 #[.pointer (some ⟨q.2.b,0,none⟩), .agg #[.int .i64 x.r.v.m, .int .i64 x.r.v.c, .int .i64 x.r.v.o, .slice ya x.r.v.val.length yc, .bool x.r.v.gone, .int .i64 x.r.v.ttl]] W λe w'=>e= .returned (.int .i64 0)/\ ∃c',Qf5 148 q.2 c' x.r.v W w':=λW hW=>by
    refine Qhq W q.2 ⟨x.r.v,ya,yc⟩ (hco.Q9 hW) ?_ (Qm.X0 (Qe.ok.rd hz2) hW) Qnx.out.2.1 ?_ (by omega)
    ·rw [Q4z];exact Qnx.out.1
    ·rw [Q4z];exact Qnx.out.2.2
   have Qs5:=zz hput;have Q9w:=zz (show ∃hj:i<cs2.length,q=cs2[i] from ⟨hi2,hq⟩);have Hv:=zz (And.intro hC2 (And.intro hsc2 (And.intro Qvk (And.intro Q4z (And.intro Qt4 (And.intro hF2 (And.intro hK2 (And.intro hl2 J10))))))));have Q2u:=zz (And.intro hB2 (And.intro J27 hz2));have Jjf:=Q7 hC2.cell;have Qte:=Q7 hB2
   have Jjd:g2<w5.heap.size:=by
    obtain ⟨cur,J5⟩:=hC2.row.type g2 rfl;exact Q7 J5
   have Qu1:=zz hn2;have J57:=zz hco;clear hC2 hsc2 hi2 Qvk Q4z Qt4 hF2 hK2 hB2 J27 hz2 hl2 J10 hrow2 hq hco hlq hput hn2 hcut Jae Mp Qf2 Db HB3 Zk HF3 Qez HZ3 Hy Qaf J7z hnB hiA;go_upto_region 8 with fail
   refine Jk (Kp No w5) [0,0,0,0,0,0,0,0,0,0,2] [0,1,2,3,4,5,6,7,8,9] 10 (by kernel_rfl) (by kernel_rfl) (λ_ n h=>h.drewN n) zK ?_;repeat (first|refine zA ?_|refine zB ?_|refine zC ?_)
   (try (apply Qb rfl rfl rfl;(focus (intro W hW;exact Qc 44 _ rfl p 3 rfl [.int .i64 x.r.v.m, .int .i64 x.r.v.c, .int .i64 x.r.v.o, .slice ya x.r.v.val.length yc, .bool x.r.v.gone, .int .i64 x.r.v.ttl] _ (RV.out W hW) Tryz.underlying44 rfl (by kernel_rfl)));(focus (go_simp;rfl))))
   repeat (first|refine zA ?_|refine zB ?_|refine zC ?_)
   refine Yu (λn1=>?_);refine Q8 rfl rfl (λJht=>?_);obtain ⟨we,hwe⟩: ∃W,W=World.drewN (World.drewN w5 n1) Jht:=⟨_,rfl⟩;have J1i:Kp No w5 we:=by rw [hwe];exact ⟨rfl,rfl,rfl,le_refl _,λ_ _ _=>rfl⟩
   rw [<-hwe];have Hx:=zz J1i;clear hwe a5 a1 J1i;go_wp2_with fail
   refine (Qs5.out we Hx.out).mono ?_;rintro e w6 ⟨rfl,c6,Q2o⟩;have Ma:=zz Q2o;clear Q2o Qs5;go_wp2_with fail
   intro nr;obtain ⟨w8,hw8⟩: ∃W,W=w6.drewN nr:=⟨_,rfl⟩;have Jcn:Kp No w6 w8:=by rw [hw8];exact (Kp.refl No w6).drewN nr
   obtain ⟨stB,Q7h,Qjo,Jbg,Jbk,hK8,Jbf,J28,Jcl,J4n,J11⟩:=Qqk Hv.out Q2u.out Q9w.out Hx.out Ma.out Jcn;have Xd:=zz Q7h;have Qa7:=zz Jbg;have Bp:=zz Jbk;have Ks:=zz hK8;have Gc:=zz Jbf;have Qo0:=zz J28;have Jau:=zz Jcl;have Qij:=zz (And.intro J4n J11);rw [<-hw8];clear hw8 Jcn Q7h Jbg Jbk hK8 Jbf J28 Jcl J4n J11 Ma Hx Hv Q2u Q9w J57 RV;have hs8:=Q7 Qa7.out.cell;have Qvv:=Q7 Gc.out;have hps:p≠s:=λe=>Qo0.out (.inl e);have d0: ∀W,Kp (Mer.One s) w8 W->W.cell? ⟨p,0,none⟩=some (.int .i64 (oN:Int)):=λW hW=>Q4 (hW.get Gc.out λe=>hps e) 0;have d1: ∀W,Kp (Mer.One s) w8 W->W.cell? ⟨p,1,none⟩=some (.int .i64 x.r.seq):=λW hW=>Q4 (hW.get Gc.out λe=>hps e) 1;have RT:=zz (show ∀W,Kp (Mer.One s) w8 W->W.rangeAt p 3 [.int .i64 x.r.v.m, .int .i64 x.r.v.c] from λW hW=>by have:=Qg (hW.get Gc.out λe=>hps e) 3 2;exact this);go_upto_region 9 with fail
   refine zD (Mer.One s) [0,0,0,0,0,0,0,0,0,0,0,0,2] [0,1,2,3,4,5,6,7,8,9,10,11,12] ?_;repeat (first|refine zA ?_|refine zB ?_|refine zC ?_)
   (try (apply Qb rfl rfl rfl;(focus (intro W hW;exact Qc 25 _ rfl p 3 rfl [.int .i64 x.r.v.m, .int .i64 x.r.v.c] _ (RT.out W hW) Tryz.underlying25 rfl (by kernel_rfl)));(focus (go_simp;rfl))))
   repeat (first|refine zA ?_|refine zB ?_|refine zC ?_)
   apply Qb rfl rfl rfl
   ·(focus (intro _ _;go_simp;rw [if_pos (show ((oN:Nat):Int)<5 from Int.ofNat_lt.2 A8)]))
   ·(focus (go_simp;rfl))
   refine Q8 rfl rfl (λq8=>?_);obtain ⟨w9,Mc⟩: ∃W,W=w8.drewN q8:=⟨_,rfl⟩;have Q63:Kp No w8 w9:=by rw [Mc];exact (Kp.refl No w8).drewN q8
   have Gl:=Q63.get Qa7.out.cell λx=>x
   have M3:w9.rangeAt s 8 (Mf stB.of):=by
    have:=Qg Gl 8 15;rwa [Qns] at this
   have g3:=U9 stB.of A8;have g0:w9.cell? ⟨s,8+oN*3,none⟩=some (.int .i64 (Qn stB.of oN).seq):=M3 _ _ g3.1;have g1:w9.cell? ⟨s,8+oN*3+1,none⟩=some (.int .i64 (Qn stB.of oN).m):=M3 _ _ g3.2.1;have g2:w9.cell? ⟨s,8+oN*3+2,none⟩=some (.int .i64 (Qn stB.of oN).c):=M3 _ _ g3.2.2;have f0:=Qh Gl (8+oN*3);have f1:=Qh Gl (8+oN*3+1);have f2:=Qh Gl (8+oN*3+2);have hs9:=Q7 Gl;have Qa8:=zz (Qa7.out.Q9 Q63);have Q6d:=zz Q63;rw [<-Mc];clear Mc Q63 Gl M3 g3;go_wp2_with fail
   have Q7e:stB.of.length=5:=by rw [Xd.out];exact HX.out.2.2.1.Qoe
   have Q0j:=Qa8.out.setOf (dn:=⟨x.r.seq,x.r.v.m,x.r.v.c⟩) Q7e A8;obtain ⟨wA,hwA⟩: ∃W,W=(((w9.setCell ⟨s,8+oN*3,none⟩ (.int .i64 x.r.seq)).setCell ⟨s,8+oN*3+1,none⟩ (.int .i64 x.r.v.m)).setCell ⟨s,8+oN*3+2,none⟩ (.int .i64 x.r.v.c)):=⟨_,rfl⟩
   have kA:Kp (Mer.One s) w8 wA:=by
    rw [hwA];exact (((Kp.Qx Q6d.out).setCell (p:=⟨s,8+oN*3,none⟩) (.inl (show Mer.One s s from rfl)) _).setCell (p:=⟨s,8+oN*3+1,none⟩) (.inl (show Mer.One s s from rfl)) _).setCell (p:=⟨s,8+oN*3+2,none⟩) (.inl (show Mer.One s s from rfl)) _
   rw [<-hwA] at Q0j;rw [<-hwA];clear g0 g1 g2 f0 f1 f2 hwA Q7e d0 d1;have Dc:=zz kA;refine ⟨kA,?_⟩;refine Qa (λnq=>?_);obtain ⟨wB,hwB⟩: ∃W,W=wA.drewN nq:=⟨_,rfl⟩;have Cd:Kp No wA wB:=by rw [hwB];exact (Kp.refl No wA).drewN nq
   obtain ⟨Qy0,J2i,Qsm⟩: ∃Qy0:Ja,Qy0={stB with of:=stB.of.set oN ⟨x.r.seq,x.r.v.m,x.r.v.c⟩}/\Vo wB s r y P o Qy0 (some ⟨g2,Im,none⟩) Qc1 Qjo Ed Ee KA:=⟨_,rfl,Q0j.Q9 Cd⟩;have Qzj:=zz J2i;have Oz:=zz Qsm;have Gd:=zz (Cd.get (kA.get Gc.out λe=>hps e) λx=>x)
   have HKB:=zz (show Kp (Zg s la lc cs ka kc K) w wB from (Ks.out.trans kA λi hi e=>by
    have e:i=s:=e;rcases Bp.out s (.inl rfl) with h1|h1
    ·exact e▸h1
    ·omega).Qr Cd)
   have Qsc:=zz (show Qe.ok ⟨x.r,ya,yc⟩ wB from Qm.ok.keep (Qm.ok.apart Jau.out kA λg hg cur J5=>by
    have hg:g=s:=hg;exact Qd J5 Qa7.out.cell (by decide) hg) Cd λ_ _ x=>x)
   rw [<-hwB];clear hwB Cd J2i Qsm Q0j kA Qa8 Q6d Qa7 Gc Ks RT hs8 Qvv hs9 Jau Dc;go_wp2_with fail
   have hsB:=Q7 Oz.out.cell;have Qi3:=Q7 Gd.out;have d0: ∀W,Kp No wB W->W.cell? ⟨p,0,none⟩=some (.int .i64 (oN:Int)):=λW hW=>Q4 (hW.get Gd.out λx=>x) 0;have d3: ∀W,Kp No wB W->W.cell? ⟨s,2,none⟩=some (.int .i64 (o:Int)):=λW hW=>Oz.out.at_ hW 2
   have Qkw: ∀kept',E7 o stk x.r={Qy0 with kept:=kept'}↔kept'=(if x.r.o=(o:Int) then stk.kept++[x.r] else stk.kept):=by
    intro kept'
    have e:E7 o stk x.r={Qy0 with kept:=if x.r.o=(o:Int) then stk.kept++[x.r] else stk.kept}:=by
     rw [Qzj.out,Xd.out];unfold E7 Z2;rw [HX.out.2.2.2.1];rfl
    rw [e];constructor
    ·intro h;injection h with _ _ _ _ _ _ _ h;exact h.symm
    ·intro h;rw [h]
   have hkept:Qy0.kept=stk.kept:=by rw [Qzj.out,Xd.out]
   have Qom:=zz (And.intro Qkw hkept);clear Qkw hkept;by_cases Bb:oN=o
   ·have e1:((oN:Int)==(o:Int))=true:=by rw [beq_iff_eq,Bb]
    have e1':(oN==o)=true:=by rw [beq_iff_eq,Bb]
    have Qil:=zz Bb;clear Bb;refine zD No [0,0,0,0,0,0,0] [0,1,2,3,4,5,6] ?_;repeat (first|refine zA ?_|refine zB ?_|refine zC ?_)
    refine Qa (λnq=>?_);obtain ⟨wD,hwD⟩: ∃W,W=wB.drewN nq:=⟨_,rfl⟩;have J2u:Kp No wB wD:=by rw [hwD];exact (Kp.refl No wB).drewN nq
    have Q2v:=zz (Oz.out.Q9 J2u);have Qs0:=zz (J2u.get Gd.out λx=>x);have D3:=zz (HKB.out.Qr J2u);have HZD:=zz (show Qe.ok ⟨x.r,ya,yc⟩ wD from Qm.ok.keep Qsc.out J2u λ_ _ x=>x);rw [<-hwD];clear hwD J2u d0 d3 Oz Gd HKB Qsc hsB Qi3;have J7w:=Qij.out;have HQ:=zz (show ∀g,(Value.slice Ed KA.length Ee).ownBlock=some g->g≠p/\g≠s from λg hg=>⟨λe=>Qo0.out (e▸ .inr (.inr (.inr (.inl hg)))),λe=>Q2v.out.Oo.2.2 (e▸ .inl hg)⟩)
    have q1: ∀W,Kp (λg=>(Value.slice Ed KA.length Ee).ownBlock=some g) wD W->W.cell? ⟨s,23,none⟩=some (.slice Ed KA.length Ee):=λW hW=>by
     rw [Q4 (hW.get Q2v.out.cell λhs=>(HQ.out s hs).2 rfl)];rfl
    have R5:=zz (show ∀W,Kp (λg=>(Value.slice Ed KA.length Ee).ownBlock=some g) wD W->W.rangeAt p 0 [.int .i64 (oN:Int), .int .i64 x.r.seq, .string x.r.key, .int .i64 x.r.v.m, .int .i64 x.r.v.c, .int .i64 x.r.v.o, .slice ya x.r.v.val.length yc, .bool x.r.v.gone, .int .i64 x.r.v.ttl] from λW hW=>by
     have:=Qg (hW.get Qs0.out λhs=>(HQ.out p hs).1 rfl) 0 9;exact this)
    clear J7w;go_upto_region 11 with fail
    refine Jk (Kp (λg=>(Value.slice Ed KA.length Ee).ownBlock=some g) wD) [0,0,0,0,0,0,2,2,0,0,2] [0,1,2,3,4,5,6,7,8,9] 10 (by kernel_rfl) (by kernel_rfl) (λ_ n h=>h.drewN n) zK ?_;repeat (first|refine zA ?_|refine zB ?_|refine zC ?_)
    refine Qb rfl rfl rfl (v:= .agg #[.int .i64 (oN:Int), .int .i64 x.r.seq, .string x.r.key, .int .i64 x.r.v.m, .int .i64 x.r.v.c, .int .i64 x.r.v.o, .slice ya x.r.v.val.length yc, .bool x.r.v.gone, .int .i64 x.r.v.ttl]) (λW0 hW=>Qc 46 _ rfl p 0 rfl _ _ (R5.out W0 hW) Tryz.underlying46 rfl (by kernel_rfl)) (by go_simp;rfl) ?_;refine Q8 rfl rfl (λn1=>?_);go_wp2_with fail
    obtain ⟨W8,Q64⟩: ∃W,W=(wD.drewN n1).alloc (.cells #[.int .i64 (oN:Int), .int .i64 x.r.seq, .string x.r.key, .int .i64 x.r.v.m, .int .i64 x.r.v.c, .int .i64 x.r.v.o, .slice ya x.r.v.val.length yc, .bool x.r.v.gone, .int .i64 x.r.v.ttl] 46):=⟨_,rfl⟩;have k8:Kp No wD W8:=by rw [Q64];exact (zK.drewN _).alloc _
    have b8:W8.heap[wD.heap.size]?=some (.cells #[.int .i64 (oN:Int), .int .i64 x.r.seq, .string x.r.key, .int .i64 x.r.v.m, .int .i64 x.r.v.c, .int .i64 x.r.v.o, .slice ya x.r.v.val.length yc, .bool x.r.v.gone, .int .i64 x.r.v.ttl] 46 (0,0)):=by rw [Q64];exact heap_alloc_new (wD.drewN n1) _
    rw [<-Q64];clear Q64;refine ⟨Kp.Qx k8,?_⟩;refine Q8 rfl rfl (λn2=>?_);have hxo:(⟨x.r,ya,yc⟩:Qe).r.o=(oN:Int):=HX.out.2.2.2.1;have Jg6:KA.length<=1000000:=by have:=Q6e.out.2.1;omega
    obtain ⟨a9,c9,W9,hrun,Q0f,hk9,Gl⟩:=Oh (T:=26) (E:=46) (sz:=9) (bytes:=96) Tryz.underlying26 Ob (V:=W8.drewN n2) (Q2v.out.kept.own.keep (k8.drewN n2) λ_ _ x=>x) (news:=recC ⟨x.r,ya,yc⟩) (G5 _) rfl (g:=wD.heap.size) b8 (by unfold recC Qe.sl;rw [hxo]) (by omega) (by omega);have Qa0:=zz hrun;have k9:Kp (λg=>(Value.slice Ed KA.length Ee).ownBlock=some g) wD W9:=(Kp.Qx (k8.drewN n2)).Q0 hk9;have Qo8:wD.heap.size<=(W8.drewN n2).heap.size:=(k8.drewN n2).size;clear hrun hk9;refine wpList_append_run rfl rfl rfl rfl Qa0.out ?_;refine wpList_nil ?_;refine ⟨rfl,k9,?_⟩;clear Qa0 q1;repeat (first|refine zA ?_|refine zB ?_|refine zC ?_)
    refine Yu (λn4=>?_);refine Q8 rfl rfl (λn5=>?_);obtain ⟨Wa,hWa⟩: ∃W,W=(W9.drewN n4).drewN n5:=⟨_,rfl⟩;have Qsx:=Q0f.keep (show Kp No W9 Wa by rw [hWa];exact ((Kp.refl No W9).drewN n4).drewN n5) λ_ _ x=>x;have Qdz:Kp (λg=>(Value.slice Ed KA.length Ee).ownBlock=some g) wD Wa:=by rw [hWa];exact (k9.drewN n4).drewN n5
    have hba:(Value.slice a9 (KA.length+1) c9).ownBlock=(Value.slice Ed KA.length Ee).ownBlock\/ ∃g,(Value.slice a9 (KA.length+1) c9).ownBlock=some g/\wD.heap.size<=g:=Gl.imp id λ⟨g,e,hg⟩=>⟨g,e,le_trans Qo8 hg⟩;have hcE:=Q2v.out.Ie (z:=⟨x.r,ya,yc⟩) Qdz Qsx hba HZD.out;have bs:=Qdz.get Q2v.out.cell λhs=>(HQ.out s hs).2 rfl;have hsa:=Q7 bs;have f23:=Qh bs 23;have g23:Wa.cell? ⟨s,23,none⟩=some (.slice Ed KA.length Ee):=by rw [Q4 bs];rfl
    have Hx:=zz (show Kp (Zg s la lc cs ka kc K) w (Wa.setCell ⟨s,23,none⟩ (.slice a9 (KA.length+1) c9)) from (D3.out.trans Qdz λi hi hS=>by
     rcases Bp.out i (.inr (.inr (.inr (.inl hS)))) with h1|h1
     ·exact h1
     ·omega).setCell (p:=⟨s,23,none⟩) (Bp.out s (.inl rfl)) _)
    have Q47:=zz hcE
    have Qrz:=zz (show ∀g,(Value.slice a9 (KA.length+1) c9).ownBlock=some g->(Value.slice Ed KA.length Ee).ownBlock=some g\/w.heap.size<=g from λg hg=>by
     rcases hba with h1|⟨g',h1,h2⟩
     ·exact .inl (h1▸hg)
     ·rw [hg] at h1;injection h1 with h1;have:=D3.out.size;exact .inr (by omega))
    rw [<-hWa];clear hWa Qsx Qdz k9 k8 b8 Q0f Gl Qo8 hba hcE bs hxo R5 D3 Q2v Qs0 HZD Jg6;go_wp2_with fail
    intro nr;obtain ⟨wE,hwE⟩: ∃W,W=(Wa.setCell ⟨s,23,none⟩ (.slice a9 (KA.length+1) c9)).drewN nr:=⟨_,rfl⟩;have hEE:Kp No (Wa.setCell ⟨s,23,none⟩ (.slice a9 (KA.length+1) c9)) wE:=by rw [hwE];exact (Kp.refl No _).drewN nr
    have Qig:=zz (show Qf3 w s r y P o st la lc cs ka kc K (L.map Qe.r) B (k+1) wE from by
     refine ⟨some ⟨g2,Im,none⟩,Qc1,Qjo,a9,c9,KA++[(⟨x.r,ya,yc⟩:Qe)],?_,λg hg=>?_,Hx.out.Qr hEE,Qij.out.1,by rw [length_append,List.length_singleton];have:=Q6e.out.2.1;omega,Qij.out.2⟩
     ·rw [HX.out.2.2.2.2.1,Lb,<-HX.out.2.2.2.2.2,(Qom.out.1 _).2 rfl,if_pos (by rw [HX.out.2.2.2.1,Qil.out])];have:=Q47.out.Q9 hEE;rw [Qom.out.2] at this;exact this
     ·rcases hg with hg|hg|hg|hg|⟨z,hz,hg⟩
      ·exact Bp.out g (.inl hg)
      ·exact Bp.out g (.inr (.inl hg))
      ·exact Bp.out g (.inr (.inr (.inl hg)))
      ·rw [length_append,List.length_singleton] at hg;rcases Qrz.out g hg with h1|h1
       ·exact Bp.out g (.inr (.inr (.inr (.inl h1))))
       ·exact .inr h1
      ·rcases mem_append.1 hz with hz|hz
       ·exact Bp.out g (.inr (.inr (.inr (.inr ⟨z,hz,hg⟩))))
       ·rw [mem_singleton] at hz;rw [hz] at hg;exact .inr (Dd.out.2 g hg))
    rw [<-hwE];clear hwE hEE f23 g23 hsa Hx Q47 Qrz;go_wp2_with fail
    go_roundw
    case rel=>exact ⟨k+1,hlt,by go_num,Qig⟩
    case measure=>simp [intOf];omega
   ·have e1:((oN:Int)==(o:Int))=false:=by rw [beq_eq_false_iff_ne];exact λe=>Bb (by omega)
    have e1':(oN==o)=false:=by rw [beq_eq_false_iff_ne];exact Bb
    have Qil:=zz Bb;clear Bb;refine zD No [0,0,0,0,0,0,0] [0,1,2,3,4,5,6] ?_;repeat (first|refine zA ?_|refine zB ?_|refine zC ?_)
    refine Qa (λnq=>?_);obtain ⟨wE,hwE⟩: ∃W,W=wB.drewN nq:=⟨_,rfl⟩;have hEE:Kp No wB wE:=by rw [hwE];exact (Kp.refl No wB).drewN nq
    have Qig:=zz (show Qf3 w s r y P o st la lc cs ka kc K (L.map Qe.r) B (k+1) wE from by
     refine ⟨some ⟨g2,Im,none⟩,Qc1,Qjo,Ed,Ee,KA,?_,Bp.out,HKB.out.Qr hEE,Qij.out.1,by have:=Q6e.out.2.1;omega,Qij.out.2⟩;rw [HX.out.2.2.2.2.1,Lb,<-HX.out.2.2.2.2.2,(Qom.out.1 _).2 rfl,if_neg (by rw [HX.out.2.2.2.1];intro e;exact Qil.out (by omega))];have:=Oz.out.Q9 hEE;rw [<-Qom.out.2];exact this)
    rw [<-hwE];clear hwE hEE d0 d3 Oz Gd HKB Qsc hsB Qi3;go_wp2_with fail
    go_roundw
    case rel=>exact ⟨k+1,hlt,by go_num,Qig⟩
    case measure=>simp [intOf];omega
  ·obtain rfl:n=k:=by omega
   clear hge;go_wp2_with fail
   refine bodyPost_end (results_none rfl _ _ _) rfl ⟨rfl,HJ.out⟩
end Go.Proofs.YtgnkmjeoaoongaaGreatDoor
