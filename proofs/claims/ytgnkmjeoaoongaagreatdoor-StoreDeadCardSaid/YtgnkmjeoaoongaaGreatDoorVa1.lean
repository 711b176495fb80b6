/-
  Mem, Disk, WPlain, Args, WName, Fin.
-/
import Derived.Lib.Hide
import Derived.Test.YtgnkmjeoaoongaaGreatDoorProg
import Derived.Test.YtgnkmjeoaoongaaGreatDoorVa0
import Derived.ProofKit
import Derived.SizedLaws
import Derived.Deep.Matrix
import Derived.Lib.ItoaNum
namespace Go.Mer
open Go Go.RowKit
open Go.ChangeMaps (setBlock)
structure Kp (S:Nat->Prop) (w w':World):Prop where
 os:w'.os=w.os
 tape:w'.tape=w.tape
 output:w'.output=w.output
 size:w.heap.size<=w'.heap.size
 block: ∀k,k<w.heap.size-> ¬S k->w'.heap[k]?=w.heap[k]?
def No:Nat->Prop:=λ_=>False
def One (b:Nat):Nat->Prop:=λk=>k=b
def Je (F F':Nat->Prop) (w:World):Prop:= ∀k,F' k->F k\/w.heap.size<=k
section
variable {S T U:Nat->Prop} {w a b c w':World}
theorem Kp.refl (S:Nat->Prop) (w:World):Kp S w w:=⟨rfl,rfl,rfl,Nat.le_refl _,λ_ _ _=>rfl⟩
theorem Kp.trans (h:Kp S a b) (k:Kp T b c) (hT: ∀i,i<a.heap.size->T i->S i):Kp S a c:=
 ⟨k.os.trans h.os,k.tape.trans h.tape,k.output.trans h.output,Nat.le_trans h.size k.size,λi hi hn=>(k.block i (Nat.lt_of_lt_of_le hi h.size) (λht=>hn (hT i hi ht))).trans (h.block i hi hn)⟩
theorem Kp.Q0 (h:Kp S a b) (k:Kp S b c):Kp S a c:=h.trans k λ_ _ x=>x
theorem Kp.Qr (h:Kp S a b) (k:Kp No b c):Kp S a c:=h.trans k λ_ _ x=>x.elim
theorem Kp.mono (h:Kp S a b) (hS: ∀i,i<a.heap.size->S i->T i):Kp T a b:=
 ⟨h.os,h.tape,h.output,h.size,λi hi hn=>h.block i hi λhs=>hn (hS i hi hs)⟩
theorem Kp.Qx (h:Kp No a b):Kp S a b:=h.mono λ_ _ x=>x.elim
theorem Kp.drewN (h:Kp S a b) (n:Nat):Kp S a (b.drewN n):=⟨h.os,h.tape,h.output,h.size,h.block⟩
theorem Kp.drew (h:Kp S a b):Kp S a b.drew:=⟨h.os,h.tape,h.output,h.size,h.block⟩
theorem Kp.Qf {n:Nat} (h:Kp S (a.drewN n) b):Kp S a b:=⟨h.os,h.tape,h.output,h.size,h.block⟩
theorem Kp.O7 (h:Kp S a b) (n:Nat):Kp S (a.drewN n) b:=⟨h.os,h.tape,h.output,h.size,h.block⟩
theorem Kp.alloc (h:Kp S a b) (o:Obj):Kp S a (b.alloc o):=
 h.Qr ⟨rfl,rfl,rfl,by simp,λk hk _=>Below.heap_alloc b o k hk⟩
theorem Kp.setCell (h:Kp S a b) {p:Addr} (hp:S p.block\/a.heap.size<=p.block) (u:Value):Kp S a (b.setCell p u):=
 h.trans (T:=One p.block) ⟨rfl,rfl,rfl,by simp [World.setCell],λk _ hn=>Below.heap_setCell _ _ _ _ (λe=>hn e)⟩
  (λi hi hT=>by
   rw [show i=p.block from hT] at hi⊢;rcases hp with hp|hp
   ·exact hp
   ·omega)
theorem Kp.setBlock (h:Kp S a b) {k:Nat} (hp:S k\/a.heap.size<=k) (o:Obj):Kp S a (setBlock b k o):=
 h.trans (T:=One k) ⟨rfl,rfl,rfl,by simp [ChangeMaps.setBlock],λi _ hn=>by
   show (b.heap.setIfInBounds k o)[i]?=_
   rw [Array.getElem?_setIfInBounds_ne (λe=>hn e.symm)]⟩
  (λi hi hT=>by
   rw [show i=k from hT] at hi⊢;rcases hp with hp|hp
   ·exact hp
   ·omega)
theorem Kp.cell (h:Kp S w w') {p:Addr} (hp:p.block<w.heap.size) (hn: ¬S p.block):w'.cell? p=w.cell? p:=World.cell?_of_block (w:=w) (h.block p.block hp hn)
theorem Kp.frozen (h:Kp S w w') {p:Addr} (hp:p.block<w.heap.size) (hn: ¬S p.block):w'.frozen? p=w.frozen? p:=World.frozen?_of_block (w:=w) (h.block p.block hp hn)
theorem Kp.get (h:Kp S w w') {k:Nat} {o:Obj} (hk:w.heap[k]?=some o) (hn: ¬S k):w'.heap[k]?=some o:=
 (h.block k (Array.getElem?_eq_some_iff.1 hk).1 hn).trans hk
theorem Kp.below (h:Kp S w w') {B:Nat} (hB:B<=w.heap.size) (hS: ∀k,k<B-> ¬S k):Below B w w':=
 ⟨h.os,h.tape,h.output,h.size,λk hk=>h.block k (by omega) (hS k hk)⟩
theorem Kp.of_below {B:Nat} (h:Below B w w') (hS: ∀k,k<w.heap.size->B<=k->S k):Kp S w w':=
 ⟨h.os,h.tape,h.output,h.size,λk hk hn=>h.block k (by
  rcases Nat.lt_or_ge k B with h'|h'
  ·exact h'
  ·exact absurd (hS k hk h') hn)⟩
theorem Kp.lt (h:Kp S w w') {k:Nat} (hk:k<w.heap.size):k<w'.heap.size:=Nat.lt_of_lt_of_le hk h.size
theorem Q7 {k:Nat} {o:Obj} (hk:w.heap[k]?=some o):k<w.heap.size:=(Array.getElem?_eq_some_iff.1 hk).1
theorem Je.refl (F:Nat->Prop) (w:World):Je F F w:=λ_ h=> .inl h
theorem Je.trans {F F' J9t:Nat->Prop} (h:Je F F' w) (k:Je F' J9t w') (hs:w.heap.size<=w'.heap.size):Je F J9t w:=λi hi=>by
 rcases k i hi with hi|hi
 ·exact h i hi
 ·exact .inr (by omega)
end
theorem Q4 {w:World} {g:Nat} {cs:Array Value} {t:TypeId} (h:w.heap[g]?=some (.cells cs t (0,0))) (i:Nat):w.cell? ⟨g,i,none⟩=cs[i]?:=cell_of_row w g i cs t (0,0) h
theorem Qh {w:World} {g:Nat} {cs:Array Value} {t:TypeId} (h:w.heap[g]?=some (.cells cs t (0,0))) (i:Nat):w.frozen? ⟨g,i,none⟩=false:=by simp [World.frozen?,h]
theorem Ql {w:World} {g:Nat} {cs:Array Value} {t:TypeId} (h:w.heap[g]?=some (.cells cs t (0,0))) (i:Nat) (u:Value):(w.setCell ⟨g,i,none⟩ u).heap[g]?=some (.cells (cs.setIfInBounds i u) t (0,0)):=by
 simp [World.setCell,Array.getElem?_modify,h]
theorem Ah {w:World} {g:Nat} {o:Obj} (h:w.heap[g]?=some o) {p:Addr} (hp:g≠p.block) (u:Value):(w.setCell p u).heap[g]?=some o:=(Below.heap_setCell w p u g hp).trans h
theorem Jm {w:World} {g:Nat} {o:Obj} (h:w.heap[g]?=some o) (o':Obj):(w.alloc o').heap[g]?=some o:=(Below.heap_alloc w o' g (Q7 h)).trans h
theorem Gr {w:World} {k:Nat} (hk:k<w.heap.size) (o:Obj):(setBlock w k o).heap[k]?=some o:=by simp [setBlock,hk]
theorem Qd {w:World} {g g':Nat} {cs cs':Array Value} {t t':TypeId} {f f':Nat×Nat} (h:w.heap[g]?=some (.cells cs t f)) (h':w.heap[g']?=some (.cells cs' t' f')) (hne:t≠t'):g≠g':=by
 rintro rfl;rw [h] at h';injection h' with h';injection h' with _ ht;exact hne ht
theorem Xz {w:World} {g g':Nat} {cs:Array Value} {t:TypeId} {f:Nat×Nat} {es:Array MapEntry} {c:Nat} (h:w.heap[g]?=some (.cells cs t f)) (h':w.heap[g']?=some (.map es c)):g≠g':=by
 rintro rfl;rw [h] at h';cases h'
def u8 (b:UInt8):Value:= .int .u8 (b.toNat:Int)
def u8s (l:List UInt8):List Value:=l.map u8
theorem Yj (l:List UInt8):(u8s l).length=l.length:=by simp [u8s]
theorem Q1y (l k:List UInt8):u8s (l++k)=u8s l++u8s k:=by simp [u8s]
theorem Q9f (l:List UInt8) (i:Nat):(u8s l)[i]?=(l[i]?).map u8:=by simp [u8s]
theorem Om (l:List UInt8): ∀u∈u8s l,u.oneCell'=true:=by
 intro u hu;obtain ⟨b,_,rfl⟩:=List.mem_map.1 hu;rfl
def Rd (w:World) (B:Nat) (a:Option Addr) (xs:List Value):Prop:=
 0<xs.length-> ∃g off,a=some ⟨g,off,none⟩/\g<B/\B<=w.heap.size/\ ∀j u,xs[j]?=some u->w.cell? ⟨g,off+j,none⟩=some u
section
variable {w w':World} {B:Nat} {a:Option Addr} {xs:List Value}
theorem Rd.nil (w:World) (B:Nat) (a:Option Addr):Rd w B a []:=λh=>absurd h (by simp)
theorem Rd.keep {S:Nat->Prop} (h:Rd w B a xs) (hk:Kp S w w') (hS: ∀k,k<B-> ¬S k):Rd w' B a xs:=λhx=>by
 obtain ⟨g,off,ha,hg,hB,hc⟩:=h hx;exact ⟨g,off,ha,hg,Nat.le_trans hB hk.size,λj u hu=>(hk.cell (p:=⟨g,off+j,none⟩) (by show g<_;omega) (hS g hg)).trans (hc j u hu)⟩
theorem Rd.Qln {S:Nat->Prop} (h:Rd w B a xs) (hk:Kp S w w') (hS: ∀k o,S k->w.cell? ⟨k,o,none⟩=none):Rd w' B a xs:=λhx=>by
 obtain ⟨g,off,ha,hg,hB,hc⟩:=h hx
 have Jgm: ¬S g:=λhs=>by
  have h0:=hc 0 xs[0] (by simp);rw [hS g _ hs] at h0;cases h0
 exact ⟨g,off,ha,hg,Nat.le_trans hB hk.size,λj u hu=>(hk.cell (p:=⟨g,off+j,none⟩) (by show g<_;omega) Jgm).trans (hc j u hu)⟩
theorem Qjh {w:World} {m:Nat} {es:Array MapEntry} {c:Nat} (h:w.heap[m]?=some (.map es c)) (o:Nat):w.cell? ⟨m,o,none⟩=none:=by simp [World.cell?,h]
theorem Rd.drewN (h:Rd w B a xs) (n:Nat):Rd (w.drewN n) B a xs:=h
theorem Rd.mono (h:Rd w B a xs) {B':Nat} (hB:B<=B') (hs:B'<=w.heap.size):Rd w B' a xs:=λhx=>by
 obtain ⟨g,off,ha,hg,_,hc⟩:=h hx;exact ⟨g,off,ha,by omega,hs,hc⟩
theorem Rd.at_ (h:Rd w B a xs) {i:Nat} {u:Value} (hu:xs[i]?=some u): ∃g off,a=some ⟨g,off,none⟩/\g<B/\B<=w.heap.size/\w.cell? ⟨g,off+i,none⟩=some u:=by
 have hi:=(List.getElem?_eq_some_iff.1 hu).1;obtain ⟨g,off,ha,hg,hB,hc⟩:=h (by omega);exact ⟨g,off,ha,hg,hB,hc i u hu⟩
theorem Rd.byte {l:List UInt8} (h:Rd w B a (u8s l)) {i:Nat} (hi:i<l.length):
  ∃g off,a=some ⟨g,off,none⟩/\g<B/\B<=w.heap.size/\w.cell? ⟨g,off+i,none⟩=some (.int .u8 (l[i].toNat:Int)):=
 h.at_ (by simp [u8s,u8,hi])
theorem Rd.drop (h:Rd w B a xs) (i:Nat):Rd w B (a.map (·.add i)) (xs.drop i):=λhx=>by
 rw [List.length_drop] at hx;obtain ⟨g,off,rfl,hg,hB,hc⟩:=h (by omega);refine ⟨g,off+i,?_,hg,hB,λj u hu=>?_⟩
 ·simp only [Option.map_some,Addr.add];split
  ·rename_i e;subst e;rfl
  ·rfl
 ·rw [List.getElem?_drop] at hu;have:=hc _ u hu;rwa [<-Nat.add_assoc] at this
theorem Rd.take (h:Rd w B a xs) (i:Nat):Rd w B a (xs.take i):=λhx=>by
 rw [List.length_take] at hx;obtain ⟨g,off,ha,hg,hB,hc⟩:=h (by omega);refine ⟨g,off,ha,hg,hB,λj u hu=>hc j u ?_⟩;rw [List.getElem?_take] at hu;split at hu
 ·exact hu
 ·cases hu
theorem Rd.row {cs:Array Value} {t:TypeId} {g off n:Nat} (hg:w.heap[g]?=some (.cells cs t (0,0))) (hx:(cs.toList.drop off).take n=xs) (hgB:g<B) (hB:B<=w.heap.size):Rd w B (some ⟨g,off,none⟩) xs:=λ_=>
 ⟨g,off,rfl,hgB,hB,λj u hu=>by
  rw [Q4 hg];subst hx;rw [List.getElem?_take] at hu;split at hu
  ·rw [List.getElem?_drop] at hu;simpa using hu
  ·cases hu⟩
end
def Own (w:World) (e:TypeId) (sz:Nat) (v:Value) (n:Nat) (xs:List Value):Prop:=
 xs.length=n*sz/\ ∃a cap,v= .slice a n cap/\n<=cap/\cap<=maxLen/\(a=none->cap=0)/\
  ∀ad,a=some ad-> ∃g off cur,ad=⟨g,off,none⟩/\w.heap[g]?=some (.cells cur e (0,0))/\off+cap*sz<=cur.size/\(cur.toList.drop off).take (n*sz)=xs
section
variable {w w':World} {e:TypeId} {sz n:Nat} {v:Value} {xs:List Value}
theorem Own.nil (w:World) (e:TypeId) (sz:Nat):Own w e sz (.slice none 0 0) 0 []:=
 ⟨by simp,none,0,rfl,Nat.le_refl _,by simp [maxLen],λ_=>rfl,λ_ h=>by cases h⟩
theorem Own.keep {S:Nat->Prop} (h:Own w e sz v n xs) (hk:Kp S w w') (hS: ∀g,v.ownBlock=some g-> ¬S g):Own w' e sz v n xs:=by
 obtain ⟨hl,a,cap,rfl,h1,h2,h3,h4⟩:=h;refine ⟨hl,a,cap,rfl,h1,h2,h3,λad had=>?_⟩;subst had;obtain ⟨g,off,cur,rfl,hg,hr⟩:=h4 ad rfl;exact ⟨g,off,cur,rfl,hk.get hg (hS g rfl),hr⟩
theorem Own.drewN (h:Own w e sz v n xs) (k:Nat):Own (w.drewN k) e sz v n xs:=h
theorem Own.lt (h:Own w e sz v n xs): ∀g,v.ownBlock=some g->g<w.heap.size:=by
 obtain ⟨_,a,cap,rfl,_,_,_,h4⟩:=h;intro g hg;cases a with
 |none=>simp [Value.ownBlock] at hg
 |some ad=>
  obtain ⟨g',off,cur,rfl,hgg,_⟩:=h4 ad rfl;simp [Value.ownBlock] at hg
  subst hg;exact Q7 hgg
theorem Own.type (h:Own w e sz v n xs): ∀g,v.ownBlock=some g-> ∃cur,w.heap[g]?=some (.cells cur e (0,0)):=by
 obtain ⟨_,a,cap,rfl,_,_,_,h4⟩:=h;intro g hg;cases a with
 |none=>simp [Value.ownBlock] at hg
 |some ad=>
  obtain ⟨g',off,cur,rfl,hgg,_⟩:=h4 ad rfl;simp [Value.ownBlock] at hg
  subst hg;exact ⟨cur,hgg⟩
theorem Own.rd (h:Own w e sz v n xs): ∃a cap,v= .slice a n cap/\n<=cap/\Rd w w.heap.size a xs:=by
 obtain ⟨hl,a,cap,rfl,h1,h2,h3,h4⟩:=h;refine ⟨a,cap,rfl,h1,λhx=>?_⟩;cases a with
 |none=>
  have:=h3 rfl;have:n=0:=by omega
  subst this;simp at hl
  rw [hl] at hx;simp at hx
 |some ad=>
  obtain ⟨g,off,cur,rfl,hg,_,hr⟩:=h4 ad rfl;exact Rd.row hg hr (Q7 hg) (Nat.le_refl _) hx
theorem Own.rd' {a:Option Addr} {cap m:Nat} (h:Own w e sz (.slice a m cap) n xs):Rd w w.heap.size a xs:=by
 obtain ⟨a',c',e',_,hr⟩:=h.rd;injection e' with e1 _ _;rw [e1];exact hr
theorem Own.made (w:World) (e:TypeId) (sz:Nat) (cur:Array Value) (n cap:Nat) (hn:n<=cap) (hm:cap<=maxLen) (hs:cap*sz<=cur.size) (hx:cur.toList.take (n*sz)=xs):
  Own (w.alloc (.cells cur e)) e sz (.slice (some ⟨w.heap.size,0,none⟩) n cap) n xs:=by
 refine ⟨?_,some ⟨w.heap.size,0,none⟩,cap,rfl,hn,hm,λh=>(by cases h),λad h=>?_⟩
 ·rw [<-hx,List.length_take,Array.length_toList];have:n*sz<=cap*sz:=Nat.mul_le_mul_right _ hn;omega
 ·injection h with h;subst h;exact ⟨w.heap.size,0,cur,rfl,heap_alloc_new w _,by omega,by simpa using hx⟩
end
def Src (w:World) (sz:Nat) (x:Value) (m:Nat) (news:List Value):Prop:=
 news.length=m*sz/\ ∃a c,x= .slice a m c/\Rd w w.heap.size a news
section
variable {P:Program} {w:World}
theorem Src.first {sz:Nat} {x:Value} {m:Nat} {news:List Value} (h:Src w sz x m news):(Builtin.firstCells sz m x).run P w= .ok news.toArray w/\(Builtin.lenOf x).run P w= .ok m w:=by
 obtain ⟨hl,a,c,rfl,hr⟩:=h;refine ⟨?_,rfl⟩;rcases Nat.eq_zero_or_pos news.length with h0|h0
 ·have hn:news=[]:=List.eq_nil_of_length_eq_zero h0;subst hn;have hm:m*sz=0:=by simpa using hl.symm
  cases a with
  |none=>rfl
  |some ad=>simp [Builtin.firstCells,hm,loadCells,loadCellsFrom]
 ·obtain ⟨g,off,rfl,_,_,hc⟩:=hr h0;refine run_firstCells_some w sz m ⟨g,off,none⟩ m c news hl λj u hu=>?_;have:=hc j u hu;have hadd:(⟨g,off,none⟩:Addr).add j=⟨g,off+j,none⟩:=by unfold Addr.add;split<;>simp_all
  rwa [hadd]
theorem Z8 (g off j:Nat):(⟨g,off,none⟩:Addr).add j=⟨g,off+j,none⟩:=by unfold Addr.add;split<;>simp_all
theorem G7 (g:Nat) (e:TypeId): ∀(news:List Value) (w:World) (off:Nat) (cur:Array Value),w.heap[g]?=some (.cells cur e (0,0))->off+news.length<=cur.size->
  ∃cur',(w.setCells g off news).heap[g]?=some (.cells cur' e (0,0))/\cur'.size=cur.size/\cur'.toList=cur.toList.take off++news++cur.toList.drop (off+news.length)
 |[],w,off,cur,hg,_=>⟨cur,by simpa [World.setCells] using hg,rfl,by simp⟩
 |x::r,w,off,cur,hg,hs=>by
  simp only [List.length_cons] at hs;obtain ⟨cur',h1,h2,h3⟩:=G7 g e r (w.setCell ⟨g,off,none⟩ x) (off+1) (cur.setIfInBounds off x) (Ql hg off x) (by simp;omega);refine ⟨cur',by simpa [World.setCells] using h1,by simpa using h2,?_⟩;rw [h3];have hlt:off<cur.toList.length:=by simp;omega
  simp only [Array.toList_setIfInBounds,List.length_cons];rw [List.take_add_one,List.getElem?_set_self hlt,List.take_set_of_le (Nat.le_refl _),List.drop_set_of_lt (by omega)];simp [Nat.add_assoc,Nat.add_comm 1]
theorem Z0 (t t' ty e:TypeId) (i:TypeInfo) (z:Value) (sz bytes:Nat) (ht:P.underlying t=some (.slice e)) (ht': ∃e',P.underlying t'=some (.slice e'))
  (hi:P.info? e=some i) (hz:i.zero=some z) (hsize:i.size=sz) (hby:i.bytes=bytes) (hzs:z.cells.size=sz)
  (v:Value) (n:Nat) (xs:List Value) (hown:Own w e sz v n xs) (x:Value) (m:Nat) (news:List Value) (hx:Src w sz x m news) (h1: ∀u∈news,u.oneCell'=true)
  (h63:n+m<=maxLen) (hbytes:(n+m)*bytes<=140737488355328):
  ∃v' w',(Builtin.append_ #[t,t'] ty #[v,x]).run P w= .ok v' w'/\Own w' e sz v' (n+m) (xs++news)/\Kp (λk=>v.ownBlock=some k) w w'/\
   (v'.ownBlock=v.ownBlock\/ ∃g,v'.ownBlock=some g/\w.heap.size<=g):=by
 obtain ⟨hl,a,cap,rfl,hnc,hcm,hnil,hblk⟩:=hown;obtain ⟨hfc,hln⟩:=hx.first (P:=P)
 have hnl:=hx.1;obtain ⟨e',ht'⟩:=ht';by_cases hroom:n+m<=cap
 ·cases a with
  |none=>
   have h0:=hnil rfl;have hn:n=0:=by omega
   have hm:m=0:=by omega
   subst hn;subst hm;have hne:news=[]:=List.eq_nil_of_length_eq_zero (by simpa using hnl);subst hne;refine ⟨.slice none 0 cap,w,?_,⟨by simpa using hl,none,cap,by simp,by omega,hcm,hnil,λ_ h=>by cases h⟩,Kp.refl _ _, .inl rfl⟩;simp [Builtin.append_,run_underlying ht,run_underlying ht',sizeOf,typeInfo,hi,hln,hsize,hfc]
  |some ad=>
   obtain ⟨g,off,cur,rfl,hg,hfit,J5⟩:=hblk ad rfl
   have hle:off+n*sz+news.length<=cur.size:=by
    rw [hnl];have:(n+m)*sz<=cap*sz:=Nat.mul_le_mul_right _ hroom;rw [Nat.add_mul] at this;omega
   have hst:=run_storeCells_cells (P:=P) g (off+n*sz) news 0 w (by
     intro j hj;rw [Nat.add_zero,Q4 hg];simp;omega) (by intro j _;exact Qh hg _) h1
   obtain ⟨cur',hg',hsz',Qkm⟩:=G7 g e news w (off+n*sz) cur hg hle
   have hkp:Kp (λk=>(Value.slice (some ⟨g,off,none⟩) n cap).ownBlock=some k) w (w.setCells g (off+n*sz) news):=by
    have key: ∀(l:List Value) (o:Nat) (a:World),Kp (One g) a (a.setCells g o l):=by
     intro l;induction l with
     |nil=>intro o a;exact Kp.refl _ _
     |cons u l ih=>
      intro o a;have h1:Kp (One g) a (a.setCell ⟨g,o,none⟩ u):=(Kp.refl (One g) a).setCell (p:=⟨g,o,none⟩) (.inl rfl) u;have h2:=h1.Q0 (ih (o+1) (a.setCell ⟨g,o,none⟩ u));simpa [World.setCells] using h2
    exact (key news _ w).mono λk _ hk=>by rw [show k=g from hk];rfl
   refine ⟨.slice (some ⟨g,off,none⟩) (n+m) cap,w.setCells g (off+n*sz) news,?_,⟨?_,some ⟨g,off,none⟩,cap,rfl,hroom,hcm,λh=>(by cases h),λad h=>?_⟩,hkp, .inl rfl⟩
   ·simp only [Nat.add_zero] at hst;simp [Builtin.append_,run_underlying ht,run_underlying ht',sizeOf,typeInfo,hi,hln,hsize,hfc,hroom,Z8,hst]
   ·rw [List.length_append,hl,hnl,Nat.add_mul]
   ·injection h with h;subst h;refine ⟨g,off,cur',rfl,hg',by rw [hsz'];exact hfit,?_⟩;rw [Qkm,<-J5]
    have e1:(cur.toList.take (off+n*sz)++news++cur.toList.drop (off+n*sz+news.length)).drop off=(cur.toList.drop off).take (n*sz)++news++cur.toList.drop (off+n*sz+news.length):=by
     have hlt:off<=(cur.toList.take (off+n*sz)).length:=by simp;omega
     rw [List.append_assoc,List.drop_append_of_le_length hlt,List.append_assoc];congr 1
     rw [List.drop_take];congr 1
     omega
    rw [e1];have e2:((cur.toList.drop off).take (n*sz)++news).length=(n+m)*sz:=by rw [J5,List.length_append,hl,hnl,Nat.add_mul]
    rw [<-e2,List.take_left]
 ·have hge:=grownCap_ge w (n+m) cap e;have hcm':grownCap w (n+m) cap e<=maxLen:=grownCap_le_maxLen w (n+m) cap e h63
  have hold:(Builtin.firstCells sz n (.slice a n cap)).run P w.drew= .ok xs.toArray w.drew:=by
   cases a with
   |none=>
    have h0:=hnil rfl;have hn:n=0:=by omega
    subst hn;have:xs=[]:=List.eq_nil_of_length_eq_zero (by simpa using hl);subst this;rfl
   |some ad=>
    obtain ⟨g,off,cur,rfl,hg,hfit,J5⟩:=hblk ad rfl;refine run_firstCells_some w.drew sz n ⟨g,off,none⟩ n cap xs hl λj u hu=>?_;rw [Z8,World.cell?_drew,Q4 hg];rw [<-J5,List.getElem?_take] at hu;split at hu
    ·rw [List.getElem?_drop] at hu;simpa using hu
    ·cases hu
  have J7l:(Builtin.firstCells sz m x).run P w.drew= .ok news.toArray w.drew:=(Src.first (w:=w.drew) (P:=P) ⟨hx.1,hx.2⟩).1;have h63': ¬(9223372036854775807<((n+m:Nat):Int)):=by simp only [maxLen] at h63;omega
  have hfit:Builtin.nextslicecap (n+m) cap*bytes<=281474976710656:=growslice_fits (by omega) hbytes;refine ⟨.slice (some ⟨w.heap.size,0,none⟩) (n+m) (grownCap w (n+m) cap e),w.drew.alloc (.cells (xs.toArray++news.toArray++Builtin.zeroCells z.cells (grownCap w (n+m) cap e-(n+m))) e),?_,?_,?_, .inr ⟨w.heap.size,rfl,Nat.le_refl _⟩⟩
  ·have J17: ¬(281474976710656<Builtin.nextslicecap (n+m) cap*bytes):=by omega
   have hn1: ¬((n:Int)+m>9223372036854775807):=by simp only [maxLen] at h63;omega
   simp [Builtin.append_,run_underlying ht,run_underlying ht',sizeOf,typeInfo,hi,hln,hsize,hby,hroom,J17,hold,J7l,zeroValue,hz,IntKind.max,IntKind.signed,IntKind.bits,hn1,Question.forced,newRow]
   refine ⟨rfl,?_⟩;have hta:(xs++news).toArray=xs.toArray++news.toArray:=by simp
   rw [hta,Array.append_assoc];rfl
  ·refine Own.made w.drew e sz _ (n+m) (grownCap w (n+m) cap e) hge hcm' ?_ ?_
   ·simp only [Array.size_append,List.size_toArray,size_zeroCells,hzs,hl,hnl,<-Nat.add_mul];exact Nat.mul_le_mul_right _ (by omega)
   ·simp only [Array.toList_append,List.append_assoc];rw [<-List.append_assoc,show (n+m)*sz=(xs++news).length from by rw [List.length_append,hl,hnl,Nat.add_mul]];exact List.take_left
  ·exact ((Kp.refl _ w).drew).alloc _
theorem wpList_append_run {ops:Array Oper} {rest:List Oper} {o:Oper} {a:Act} {Q:Exit->Act->World->Prop} {w':World} {s x:Operand} {t t':TypeId} {v xv v':Value} (hgd:o.guard=none)
  (ho:o.op= .call {callee:= .builtin .append,args:= #[s,x],argTypes:= #[t,t']}) (hs:a.eval s=v) (hx:a.eval x=xv)
  (hrun:(Builtin.append_ #[t,t'] o.type #[v,xv]).run P w= .ok v' w') (h:wpList P ops Q rest (a.put o.dst v') w'):wpList P ops Q (o::rest) a w:=
 wpList_plain hgd λ_ hK=>by
  unfold Oper.wp execOp;simp only [ho,resolve,invoke,builtin,Sem.run_bind,Sem.run_pure,Result.andThen_ok,List.map_toArray,List.map_cons,List.map_nil,hs,hx,hrun];exact hK _ _ h
end
theorem zA {P:Program} {ops:Array Oper} {ks:List Nat} {S:World->Prop} {Q:Exit->Act->World->Prop} {i:Nat} {o:Oper} {rest:List Nat} {a:Act} {w:World} {A:Act} (h:Ji P ops ks S Q rest A w) (ho:ops[i]?=some o:=by rfl) (hk:ks.getD i 2<2:=by decide) (hg:Region.wanted o (yielded ops a.tmps)=false:=by rfl) (hA:a.put o.dst undef=A:=by go_simp;rfl):Ji P ops ks S Q (i::rest) a w:=Qcr ho hk hg hA h
theorem zB {P:Program} {ops:Array Oper} {ks:List Nat} {S:World->Prop} {Q:Exit->Act->World->Prop} {i:Nat} {o:Oper} {rest:List Nat} {a:Act} {w:World} {A:Act} {v:Value} (h:Ji P ops ks S Q rest A w) (ho:ops[i]?=some o:=by rfl) (hk:ks.getD i 2=0:=by rfl) (hg:Region.wanted o (yielded ops a.tmps)=true:=by rfl) (hv: ∀w0:World,S w0->(execOp a.eval o).run P w0= .ok (.value v) w0:=by intro _ _;go_simp;(try go_ints);rfl) (hA:a.put o.dst v=A:=by go_simp;rfl):Ji P ops ks S Q (i::rest) a w:=Qb ho hk hg hv hA h
theorem zC {P:Program} {ops:Array Oper} {ks:List Nat} {S:World->Prop} {Q:Exit->Act->World->Prop} {i:Nat} {o:Oper} {rest:List Nat} {a:Act} {w:World} {A:Act} {v:Value} (h:Ji P ops ks S Q rest A w) (ho:ops[i]?=some o:=by rfl) (hk:ks.getD i 2=1:=by rfl) (hg:Region.wanted o (yielded ops a.tmps)=true:=by rfl) (hv: ∀n,(execOp a.eval o).run P (w.drewN n)= .ok (.value v) (w.drewN n):=by intro _;go_simp;(try go_ints);rfl) (hA:a.put o.dst v=A:=by go_simp;rfl):Ji P ops ks S Q (i::rest) a w:=Qcq ho hk hg hv hA h
theorem zD {P:Program} {Q:Exit->Act->World->Prop} {id:Nat} {a:Act} {w:World} {l:List Oper} (F:Nat->Prop) (ks ord:List Nat) (h:Ji P l.toArray ks (Kp F w) Q ord a w) (hm:P.follows .mixedOrders=true:=by kernel_rfl) (hB:Qmc l.toArray ks ord=true:=by kernel_rfl):(Code.region id l.toArray true).wp P Q a w:=Xb (Kp F w) ks ord hm hB (λ_ n h=>h.drewN n) (Kp.refl _ _) h
theorem zE {P:Program} {Q:Exit->Act->World->Prop} {id:Nat} {a:Act} {w:World} {l:List Oper} (ks ord:List Nat) (h:Ji P l.toArray ks (λ_=>True) Q ord a w) (hm:P.follows .mixedOrders=true:=by kernel_rfl) (hB:Qmc l.toArray ks ord=true:=by kernel_rfl):(Code.region id l.toArray true).wp P Q a w:=Q2r ks ord hm hB h
theorem zK {S:Nat->Prop} {w:World}:Kp S w w:=Kp.refl S w
end Go.Mer
namespace Go.Proofs.YtgnkmjeoaoongaaGreatDoor
open Go.RowKit Go.Mer
structure Fc where
 data:List UInt8
 lasts:Nat
abbrev Jl:=List (ByteArray×Fc)
structure Qz where
 room:Nat
 Jo:Option Nat
 files:Jl
def Jw (l:List (ByteArray×Fc)):Nat:=(l.map λp=>p.2.data.length).sum
def Jq (s:ByteArray):Bool:=decide (1<=s.size)&&decide (s.size<=64)
structure Yx where
 blk:Nat
 v:Value
 data:List UInt8
 lasts:Nat
abbrev Ye:=List (ByteArray×Yx)
def Yx.abs (c:Yx):Fc:=⟨c.data,c.lasts⟩
def Yx.ptr (c:Yx):Value:= .pointer (some ⟨c.blk,0,none⟩)
def Zy (L:Ye):Jl:=L.map λp=>(p.1,p.2.abs)
def M4 (L:Ye):List (ByteArray×Value):=L.map λp=>(p.1,p.2.ptr)
def Mm (w:World) (c:Yx):Prop:=
 w.heap[c.blk]?=some (.cells #[c.v, .int .i64 (c.lasts:Int)] 164 (0,0))/\Own w 5 1 c.v c.data.length (u8s c.data)/\c.lasts<=c.data.length
structure Ze (w:World) (d m room:Nat) (fused:Bool) (left:Int) (L:Ye):Prop where
 cell:w.heap[d]?=some (.cells #[.int .i64 (room:Int), .map (some m), .bool fused, .int .i64 left] 161 (0,0))
 map:U2 Value.string w m (M4 L)
 files: ∀p∈L,Mm w p.2
 Q00:(L.map (·.2.blk)).Nodup
 rows:(L.filterMap (·.2.v.ownBlock)).Nodup
 fits:Jw (Zy L)<=room
 roomy:room<=1073741824
 few:L.length<=4096
 left0:0<=left
 Ii:left<=9223372036854775807
def FP (d m:Nat) (L:Ye):Nat->Prop:=λk=>k=d\/k=m\/ ∃p∈L,k=p.2.blk\/p.2.v.ownBlock=some k
def Dq (fused:Bool) (left:Int):Option Nat:=if fused then some left.toNat else none
def Zd (w:World) (d:Nat) (s:Qz) (F:Nat->Prop):Prop:=
 ∃m fused left L,Ze w d m s.room fused left L/\s.Jo=Dq fused left/\s.files=Zy L/\(∀k,FP d m L k->F k)/\ ∀k,F k->k<w.heap.size
section
variable {w w':World} {d m room:Nat} {fused:Bool} {left:Int} {L:Ye}
theorem Mm.keep {S:Nat->Prop} {c:Yx} (h:Mm w c) (hk:Kp S w w') (h1: ¬S c.blk) (h2: ∀g,c.v.ownBlock=some g-> ¬S g):Mm w' c:=
 ⟨hk.get h.1 h1,h.2.1.keep hk h2,h.2.2⟩
theorem Ze.keep {S:Nat->Prop} (h:Ze w d m room fused left L) (hk:Kp S w w') (hS: ∀k,FP d m L k-> ¬S k):Ze w' d m room fused left L:=
 {h with
  cell:=hk.get h.cell (hS d (.inl rfl))
  map:=h.map.of_heap (hk.block m h.map.lt (hS m (.inr (.inl rfl))))
  files:=λp hp=>(h.files p hp).keep hk (hS _ (.inr (.inr ⟨p,hp, .inl rfl⟩))) λg hg=>hS g (.inr (.inr ⟨p,hp, .inr hg⟩))}
theorem Ze.Q9 (h:Ze w d m room fused left L) (hk:Kp No w w'):Ze w' d m room fused left L:=h.keep hk λ_ _ x=>x
theorem Ze.lt (h:Ze w d m room fused left L): ∀k,FP d m L k->k<w.heap.size:=by
 rintro k (rfl|rfl|⟨p,hp,rfl|hk⟩)
 ·exact Q7 h.cell
 ·exact h.map.lt
 ·exact Q7 (h.files p hp).1
 ·exact (h.files p hp).2.1.lt k hk
theorem Qg2 (L:Ye):(M4 L).map (·.1)=L.map (·.1):=Kh _ L
theorem Nu (L:Ye):(Zy L).map (·.1)=L.map (·.1):=Kh _ L
theorem Ze.keys (h:Ze w d m room fused left L):(L.map (·.1)).Nodup:=by have:=h.map.nodup;rwa [Qg2] at this
theorem Zd.keep {S F:Nat->Prop} {s:Qz} (h:Zd w d s F) (hk:Kp S w w') (hS: ∀k,F k-> ¬S k):Zd w' d s F:=by
 obtain ⟨m,fused,left,L,h1,h2,h3,h4,h5⟩:=h;exact ⟨m,fused,left,L,h1.keep hk (λk hf=>hS k (h4 k hf)),h2,h3,h4,λk hf=>hk.lt (h5 k hf)⟩
theorem Zd.Q9 {F:Nat->Prop} {s:Qz} (h:Zd w d s F) (hk:Kp No w w'):Zd w' d s F:=h.keep hk λ_ _ x=>x
theorem Ze.Qef (h:Ze w d m room fused left L) (Qk0:Bool) (left':Int) (h0:0<=left') (h1:left'<=9223372036854775807) (hk:Kp (One d) w w')
  (hc:w'.heap[d]?=some (.cells #[.int .i64 (room:Int), .map (some m), .bool Qk0, .int .i64 left'] 161 (0,0))):Ze w' d m room Qk0 left' L:=
 have hne: ∀k,FP d m L k->k≠d-> ¬One d k:=λ_ _ h1 h2=>h1 h2
 have hmd:m≠d:=λe=>by
  obtain ⟨es,c,hm,_⟩:=h.map;subst e;rw [h.cell] at hm;cases hm
 {h with
  cell:=hc
  map:=h.map.of_heap (hk.block m h.map.lt hmd)
  files:=λp hp=>(h.files p hp).keep hk (λe=>Qd (h.files p hp).1 h.cell (by decide) e) λg hg e=>by
   obtain ⟨cur,J5⟩:=(h.files p hp).2.1.type g hg;exact Qd J5 h.cell (by decide) e
  left0:=h0
  Ii:=h1}
end
def Q2q (l:Jl) (V:List ByteArray):Nat:=Jw (l.filter λp=>decide (p.1∈V))
def Mg {β:Type} (l:List (ByteArray×β)) (V:List ByteArray):Nat:=(l.filter λp=>decide (p.1∉V)).length
theorem Qna:Jw []=0:=rfl
theorem Eh (p:ByteArray×Fc) (l:Jl):Jw (p::l)=p.2.data.length+Jw l:=by simp [Jw]
theorem Vy (l k:Jl):Jw (l++k)=Jw l+Jw k:=by simp [Jw]
theorem Qnc (l:Jl):Q2q l []=0:=by
 unfold Q2q;rw [List.filter_eq_nil_iff.2 (by simp)];rfl
theorem Gj {β:Type} {l:List (ByteArray×β)} (hn:(l.map (·.1)).Nodup) {p:ByteArray×β} (hp:p∈l) {V:List ByteArray} (hV:p.1∉V):
  (l.filter λq=>decide (q.1∈p.1::V)).Perm (p::l.filter λq=>decide (q.1∈V))/\Mg l V=Mg l (p.1::V)+1:=by
 induction l with
 |nil=>cases hp
 |cons q l ih=>
  simp only [List.map_cons,List.nodup_cons] at hn;rcases List.mem_cons.1 hp with rfl|hp'
  ·have e1:(l.filter λq=>decide (q.1∈p.1::V))=l.filter λq=>decide (q.1∈V):=by
    apply List.filter_congr
    intro x hx;have:x.1≠p.1:=λe=>hn.1 (e▸List.mem_map.2 ⟨x,hx,rfl⟩);simp [this]
   have e2:(l.filter λq=>decide (q.1∉p.1::V))=l.filter λq=>decide (q.1∉V):=by
    apply List.filter_congr
    intro x hx;have:x.1≠p.1:=λe=>hn.1 (e▸List.mem_map.2 ⟨x,hx,rfl⟩);simp [this]
   unfold Mg;rw [List.filter_cons,List.filter_cons,List.filter_cons,List.filter_cons,e1,e2];simp [hV]
  ·have J2b:q.1≠p.1:=λe=>hn.1 (e▸List.mem_map.2 ⟨p,hp',rfl⟩);obtain ⟨i1,i2⟩:=ih hn.2 hp';unfold Mg at i2⊢;by_cases hq:q.1∈V
   ·constructor
    ·have ea:decide (q.1∈p.1::V)=true:=by simp [hq]
     have eb:decide (q.1∈V)=true:=by simp [hq]
     rw [List.filter_cons,List.filter_cons,ea,eb,if_pos rfl,if_pos rfl];exact (i1.cons q).trans (List.Perm.swap _ _ _)
    ·have ea:decide (q.1∉p.1::V)=false:=by simp [hq]
     have eb:decide (q.1∉V)=false:=by simp [hq]
     rw [List.filter_cons,List.filter_cons,ea,eb];simpa using i2
   ·constructor
    ·have ea:decide (q.1∈p.1::V)=false:=by simp [hq,J2b]
     have eb:decide (q.1∈V)=false:=by simp [hq]
     rw [List.filter_cons,List.filter_cons,ea,eb];simpa using i1
    ·have ea:decide (q.1∉p.1::V)=true:=by simp [hq,J2b]
     have eb:decide (q.1∉V)=true:=by simp [hq]
     rw [List.filter_cons,List.filter_cons,ea,eb,if_pos rfl,if_pos rfl,List.length_cons,List.length_cons,i2]
theorem Q40 {l k:Jl} (h:l.Perm k):Jw l=Jw k:=by
 unfold Jw;exact (h.map _).sum_nat
theorem Qh8 {l:Jl} (hn:(l.map (·.1)).Nodup) {p:ByteArray×Fc} (hp:p∈l) {V:List ByteArray} (hV:p.1∉V):Q2q l (p.1::V)=Q2q l V+p.2.data.length:=by
 unfold Q2q;rw [Q40 (Gj hn hp hV).1,Eh];omega
theorem Q9e (l:Jl) (f:ByteArray×Fc->Bool):Jw (l.filter f)<=Jw l:=by
 induction l with
 |nil=>simp
 |cons p l ih=>
  rw [List.filter_cons];split<;>simp only [Eh]<;>omega
theorem Qem (l:Jl) (V:List ByteArray):Q2q l V<=Jw l:=Q9e _ _
theorem Qnb {l:Jl} {V:List ByteArray} (h: ∀p∈l,p.1∈V):Q2q l V=Jw l:=by
 unfold Q2q;rw [List.filter_eq_self.2 (by simpa using h)]
theorem Q5a {l:Jl} {p:ByteArray×Fc} (h:p∈l):p.2.data.length<=Jw l:=by
 induction l with
 |nil=>cases h
 |cons q l ih=>
  rw [Eh];rcases List.mem_cons.1 h with rfl|h
  ·omega
  ·have:=ih h;omega
theorem Nz {l:Jl} (hn:(l.map (·.1)).Nodup) {k:ByteArray} {x y:Fc} (h:Qs l k=some x):Jw (Jb l k y)+x.data.length=Jw l+y.data.length:=by
 obtain ⟨l1,l2,rfl,_⟩:=Uq h;rw [Vi hn];simp only [Vy,Eh];omega
theorem Mi {l:Jl} {k:ByteArray} {y:Fc} (h:Qs l k=none):Jw (Jb l k y)=Jw l+y.data.length:=by
 rw [Dv (Z5.1 h),Vy,Eh,Qna];rfl
theorem U6 (L:Ye) (k:ByteArray):Qs (Zy L) k=(Qs L k).map Yx.abs:=Kc _ L k
theorem Kd (L:Ye) (k:ByteArray) (c:Yx):Zy (Jb L k c)=Jb (Zy L) k c.abs:=Nn _ L k c
section
variable {w w':World} {d m room:Nat} {fused:Bool} {left:Int} {L l1 l2:Ye} {name:ByteArray} {c c':Yx}
theorem Ze.Qee (h:Ze w d m room fused left L) (hc:Qs L name=some c) (hblk:c'.blk=c.blk) (hk:Kp (λk=>k=c.blk\/c.v.ownBlock=some k) w w') (hok:Mm w' c')
  (hrow:c'.v.ownBlock=c.v.ownBlock\/ ∃g,c'.v.ownBlock=some g/\w.heap.size<=g) (hfit:Jw (Zy (Jb L name c'))<=room):
  Ze w' d m room fused left (Jb L name c')/\Je (FP d m L) (FP d m (Jb L name c')) w/\Kp (FP d m L) w w':=by
 have hkeys:=h.keys;have hcf:=h.files _ (Jc hc);have hmem:=Jc hc;obtain ⟨l1,l2,rfl,hn1⟩:=Uq hc;rw [Vi hkeys] at hfit⊢;have hb:=h.Q00;have hr:=h.rows;simp only [List.map_append,List.map_cons] at hb;simp only [List.filterMap_append] at hr;have Qkk: ∀g,c.v.ownBlock=some g-> ∃cur,w.heap[g]?=some (.cells cur 5 (0,0)):=λg hg=>hcf.2.1.type g hg;obtain ⟨es,ck,hm,_⟩:=h.map
 have hother: ∀p,p∈l1\/p∈l2->Mm w' p.2:=λp hp=>by
  have hp':p∈l1++(name,c)::l2:=by rcases hp with hp|hp<;>simp [hp]
  have J86:=h.files p hp';refine J86.keep hk (λhS=>?_) λg hg hS=>?_
  ·rcases hS with hS|hS
   ·rw [List.nodup_append] at hb;rcases hp with hp|hp
    ·exact hb.2.2 _ (List.mem_map.2 ⟨p,hp,rfl⟩) _ (List.mem_cons_self ..) hS
    ·have:=(List.nodup_cons.1 hb.2.1).1;exact this (List.mem_map.2 ⟨p,hp,hS⟩)
   ·obtain ⟨cur,J5⟩:=Qkk _ hS;exact Qd J86.1 J5 (by decide) rfl
  ·rcases hS with hS|hS
   ·obtain ⟨cur,J5⟩:=J86.2.1.type g hg;exact Qd J5 hcf.1 (by decide) hS
   ·rw [List.filterMap_cons,hS] at hr;rw [List.nodup_append] at hr;rcases hp with hp|hp
    ·exact hr.2.2 _ (List.mem_filterMap.2 ⟨p,hp,hg⟩) _ (List.mem_cons_self ..) rfl
    ·exact (List.nodup_cons.1 hr.2.1).1 (List.mem_filterMap.2 ⟨p,hp,hg⟩)
 refine ⟨{h with cell:=?_,map:=?_,files:=?_,Q00:=?_,rows:=?_,fits:=hfit,few:=?_},?_,hk.mono λk _ hk=>?_⟩
 ·refine hk.get h.cell λhS=>?_;rcases hS with hS|hS
  ·exact Qd h.cell hcf.1 (by decide) hS
  ·obtain ⟨cur,J5⟩:=Qkk _ hS;exact Qd h.cell J5 (by decide) rfl
 ·have e:M4 (l1++(name,c')::l2)=M4 (l1++(name,c)::l2):=by simp [M4,Yx.ptr,hblk]
  rw [e];refine h.map.of_heap (hk.block m h.map.lt λhS=>?_);rcases hS with hS|hS
  ·rw [hS,hcf.1] at hm;cases hm
  ·obtain ⟨cur,J5⟩:=Qkk _ hS;rw [J5] at hm;cases hm
 ·intro p hp;rcases List.mem_append.1 hp with hp|hp
  ·exact hother p (.inl hp)
  ·rcases List.mem_cons.1 hp with rfl|hp
   ·exact hok
   ·exact hother p (.inr hp)
 ·simpa [hblk] using h.Q00
 ·rcases hrow with hrow|⟨g,hg,hgs⟩
  ·have:=h.rows;simp only [List.filterMap_append,List.filterMap_cons] at this⊢;rw [hrow];exact this
  ·have hlt: ∀p∈l1++(name,c)::l2,∀k,p.2.v.ownBlock=some k->k≠g:=λp hp k hk e=>by
    have:=(h.files p hp).2.1.lt k hk;omega
   simp only [List.filterMap_append,List.filterMap_cons,hg] at hr⊢;rw [List.nodup_append] at hr⊢
   have hr2:(l2.filterMap (·.2.v.ownBlock)).Nodup:=by
    rcases hv:c.v.ownBlock with _|k
    ·have:=hr.2.1;simpa only [hv] using this
    ·have:=hr.2.1;simp only [hv] at this;exact (List.nodup_cons.1 this).2
   refine ⟨hr.1,List.nodup_cons.2 ⟨λhm=>?_,hr2⟩,λa ha b hb' e=>?_⟩
   ·obtain ⟨p,hp,Qvy⟩:=List.mem_filterMap.1 hm;exact hlt p (by simp [hp]) _ Qvy rfl
   ·subst e;rcases List.mem_cons.1 hb' with rfl|hb'
    ·obtain ⟨p,hp,Qvy⟩:=List.mem_filterMap.1 ha;exact hlt p (by simp [hp]) _ Qvy rfl
    ·refine hr.2.2 a ha a ?_ rfl;rcases hv:c.v.ownBlock with _|k
     ·exact hb'
     ·exact List.mem_cons_of_mem _ hb'
 ·simpa using h.few
 ·rintro k (rfl|rfl|⟨p,hp,hpk⟩)
  ·exact .inl (.inl rfl)
  ·exact .inl (.inr (.inl rfl))
  ·rcases List.mem_append.1 hp with hp|hp
   ·exact .inl (.inr (.inr ⟨p,by simp [hp],hpk⟩))
   ·rcases List.mem_cons.1 hp with rfl|hp
    ·rcases hpk with hpk|hpk
     ·exact .inl (.inr (.inr ⟨_,hmem, .inl (hpk.trans hblk)⟩))
     ·rcases hrow with hrow|⟨g,hg,hgs⟩
      ·exact .inl (.inr (.inr ⟨_,hmem, .inr (hrow▸hpk)⟩))
      ·right
       have:some k=some g:=hpk.symm.trans hg;injection this with this;omega
    ·exact .inl (.inr (.inr ⟨p,by simp [hp],hpk⟩))
 ·exact .inr (.inr ⟨_,hmem,hk⟩)
theorem Ze.Qp1 (h:Ze w d m room fused left L) (hc:Qs L name=none) (hk:Kp (One m) w w') (hm':U2 Value.string w' m (Jb (M4 L) name c'.ptr)) (hok:Mm w' c')
  (hblk:w.heap.size<=c'.blk) (hrow: ∀g,c'.v.ownBlock=some g->w.heap.size<=g) (hfit:Jw (Zy (Jb L name c'))<=room) (hfew:L.length<4096):
  Ze w' d m room fused left (Jb L name c')/\Je (FP d m L) (FP d m (Jb L name c')) w/\Kp (FP d m L) w w':=by
 have hnk:=Z5.1 hc;have hmap:M4 (Jb L name c')=Jb (M4 L) name c'.ptr:=Nn _ L name c';rw [<-hmap] at hm';rw [Dv hnk] at hfit hm'⊢;obtain ⟨es,ck,hm,_⟩:=h.map;refine ⟨{h with cell:=?_,map:=hm',files:=?_,Q00:=?_,rows:=?_,fits:=hfit,few:=?_},?_,hk.mono λk _ hk=> .inr (.inl hk)⟩
 ·exact hk.get h.cell λhS=>by
   have hS:d=m:=hS;have hc:=h.cell;rw [hS,hm] at hc;cases hc
 ·intro p hp;rcases List.mem_append.1 hp with hp|hp
  ·refine (h.files p hp).keep hk (λhS=>?_) λg hg hS=>?_
   ·have hf:=(h.files p hp).1;rw [show p.2.blk=m from hS,hm] at hf;cases hf
   ·obtain ⟨cur,J5⟩:=(h.files p hp).2.1.type g hg;rw [show g=m from hS,hm] at J5;cases J5
  ·simp only [List.mem_singleton] at hp;subst hp;exact hok
 ·rw [List.map_append,List.nodup_append];refine ⟨h.Q00,by simp,λa ha b hb e=>?_⟩;simp only [List.map_cons,List.map_nil,List.mem_singleton] at hb;obtain ⟨p,hp,rfl⟩:=List.mem_map.1 ha;have:=Q7 (h.files p hp).1;omega
 ·rw [List.filterMap_append,List.nodup_append];refine ⟨h.rows,?_,λa ha b hb e=>?_⟩
  ·cases hv:c'.v.ownBlock<;>simp [hv]
  ·obtain ⟨p,hp,hpa⟩:=List.mem_filterMap.1 ha;obtain ⟨q,hq,Qod⟩:=List.mem_filterMap.1 hb;simp only [List.mem_singleton] at hq;subst hq;have:=(h.files p hp).2.1.lt a hpa;have:=hrow b Qod;omega
 ·rw [List.length_append];simp
  omega
 ·rintro k (rfl|rfl|⟨p,hp,hpk⟩)
  ·exact .inl (.inl rfl)
  ·exact .inl (.inr (.inl rfl))
  ·rcases List.mem_append.1 hp with hp|hp
   ·exact .inl (.inr (.inr ⟨p,hp,hpk⟩))
   ·simp only [List.mem_singleton] at hp;subst hp;right
    rcases hpk with rfl|hpk
    ·exact hblk
    ·exact hrow k hpk
end
theorem kindStr:Tryz.prog.underlying 9=some .string:=Tryz.underlying9
theorem Q5r (k:ByteArray):MapKept.IsKey .string (Value.string k):=trivial
theorem Q5q (a b:ByteArray) (h:Value.string a=Value.string b):a=b:=by injection h
theorem Qrw (w:World):(zeroValue 162).run Tryz.prog w= .ok (.pointer none) w:=by kernel_rfl
theorem infoByte:(Tryz.prog.info? 5).map (λi=>(i.zero,i.size,i.bytes))=some (some (.int .u8 0),1,1):=by kernel_rfl
theorem Q3m {w:World} {m:Nat} {l:List (ByteArray×Value)} (h:U2 Value.string w m l) (k:ByteArray):
  (Instr.lookup 159 (.map (some m)) (.string k) false).run Tryz.prog w= .ok ((Qs l k).getD (.pointer none)) w:=
 (Ir Tryz.underlying159 kindStr Q5r Q5q Qrw h k).1
end Go.Proofs.YtgnkmjeoaoongaaGreatDoor
namespace Go.Mer
open Go
def Z9 (v:Nat):List UInt8:=[UInt8.ofNat v,UInt8.ofNat (v/256),UInt8.ofNat (v/65536),UInt8.ofNat (v/16777216)]
def Q4e (b:List UInt8) (i:Nat):Nat:=(b.getD i 0).toNat
def B7 (b:List UInt8):Nat:=Q4e b 0+Q4e b 1*256+Q4e b 2*65536+Q4e b 3*16777216
theorem Ov (n:Nat):(UInt8.ofNat n).toNat=n % 256:=UInt8.toNat_ofNat'
theorem J6 (v:Nat):(Z9 v).length=4:=rfl
def Ey (n:Nat):List UInt8:=Z9 n++Z9 (crc (Z9 n))
theorem Zp (n:Nat):(Ey n).length=8:=rfl
def Xm (p:List UInt8):List UInt8:=Ey p.length++p
def Jt (p:List UInt8):List UInt8:=Xm p++Z9 (crc (Xm p))
theorem Mb (p:List UInt8):(Jt p).length=p.length+12:=by
 unfold Jt Xm;rw [List.length_append,List.length_append,Zp,J6];omega
def Jft (b:List UInt8):Option (List UInt8×Nat):=
 if b.length<8 then none
 else if b.take 8≠Ey (B7 b) then none
 else if 262144<B7 b then none
 else if b.length<12+B7 b then none
 else if B7 (b.drop (8+B7 b))≠crc (b.take (8+B7 b)) then none
 else some ((b.drop 8).take (B7 b),B7 b+12)
def Qq (n:Nat):List UInt8:=if h:n<128 then [UInt8.ofNat n] else UInt8.ofNat (n % 128+128)::Qq (n/128)
termination_by n
decreasing_by omega
def Qc5:Nat->Nat->List UInt8->Option (Nat×List UInt8)
 |_,_,[]=>none
 |i,u,c::r=>
  if 9<=i\/(0<i/\c=0) then none
  else if c.toNat<128 then (if 4611686018427387904<u+c.toNat*128^i then none else some (u+c.toNat*128^i,r))
  else Qc5 (i+1) (u+(c.toNat-128)*128^i) r
theorem Yh {n:Nat} (h:n<128):Qq n=[UInt8.ofNat n]:=by rw [Qq,dif_pos h]
theorem Ck {n:Nat} (h: ¬n<128):Qq n=UInt8.ofNat (n % 128+128)::Qq (n/128):=by rw [Qq,dif_neg h]
theorem Js (k:Nat): ∀n,n<128^(k+1)->(Qq n).length<=k+1:=by
 induction k with
 |zero=>intro n h;rw [Yh (by simpa using h)];simp
 |succ k ih=>
  intro n h;by_cases hn:n<128
  ·rw [Yh hn];simp
  ·rw [Ck hn,List.length_cons];have:=ih (n/128) (by rw [Nat.pow_succ] at h;omega);omega
theorem Qgd (r:List UInt8) (k:Nat): ∀(n i u:Nat),n<128^(k+1)->i+k<=8->(i=0\/0<n)->u+n*128^i<=4611686018427387904->Qc5 i u (Qq n++r)=some (u+n*128^i,r):=by
 induction k with
 |zero=>
  intro n i u h hi h0 hm;have hn:n<128:=by simpa using h
  have e:(UInt8.ofNat n).toNat=n:=by rw [Ov];omega
  rw [Yh hn,List.singleton_append,Qc5,if_neg,e,if_pos hn,if_neg (by omega)];rintro (h9|⟨h1,h2⟩)
  ·omega
  ·have:=congrArg UInt8.toNat h2;rw [e] at this;have h3:(0:UInt8).toNat=0:=rfl;omega
 |succ k ih=>
  intro n i u h hi h0 hm;by_cases hn:n<128
  ·have e:(UInt8.ofNat n).toNat=n:=by rw [Ov];omega
   rw [Yh hn,List.singleton_append,Qc5,if_neg,e,if_pos hn,if_neg (by omega)];rintro (h9|⟨h1,h2⟩)
   ·omega
   ·have:=congrArg UInt8.toNat h2;rw [e] at this;have h3:(0:UInt8).toNat=0:=rfl;omega
  ·have e:(UInt8.ofNat (n % 128+128)).toNat=n % 128+128:=by rw [Ov];omega
   rw [Ck hn,List.cons_append,Qc5,if_neg,e,if_neg (by omega),Nat.add_sub_cancel]
   ·have hsum:u+n % 128*128^i+n/128*128^(i+1)=u+n*128^i:=by
     have hd:n=128*(n/128)+n % 128:=(Nat.div_add_mod n 128).symm;rw [Nat.pow_succ];have:n*128^i=(128*(n/128)+n % 128)*128^i:=by rw [<-hd]
     rw [this,Nat.add_mul]
     have:n/128*(128^i*128)=128*(n/128)*128^i:=by
      rw [Nat.mul_comm (128^i) 128,<-Nat.mul_assoc,Nat.mul_comm (n/128) 128]
     omega
    rw [ih (n/128) (i+1) (u+n % 128*128^i) (by rw [Nat.pow_succ] at h;omega) (by omega) (.inr (by omega)) (by rw [hsum];exact hm),hsum]
   ·rintro (h9|⟨h1,h2⟩)
    ·omega
    ·have:=congrArg UInt8.toNat h2;rw [e] at this;have h3:(0:UInt8).toNat=0:=rfl;omega
theorem Qm8 (n:Nat) (h:n<=4611686018427387904) (r:List UInt8):Qc5 0 0 (Qq n++r)=some (n,r):=by
 have:=Qgd r 8 n 0 0 (Nat.lt_of_le_of_lt h (by decide)) (by omega) (.inl rfl) (by omega);simpa using this
open Go.ChangeShapes Go.WideShapes Go.ChangeAt Go.RowKit Go.Deep
structure Row where
 a:Option Addr
 cap:Nat
 data:List UInt8
def Row.val (r:Row):Value:= .slice r.a r.data.length r.cap
structure U4 (w:World) (a:Option Addr) (R:List Row):Prop where
 top:Rd w w.heap.size a (R.map Row.val)
 each: ∀r∈R,Rd w w.heap.size r.a (u8s r.data)/\r.data.length<=140737488355328
section
variable {w W:World} {a:Option Addr} {R:List Row}
theorem U4.at_ (h:U4 w a R) (hk:Kp No w W) {j:Nat} (hj:j<R.length):
  ∃g off,a=some ⟨g,off,none⟩/\g<w.heap.size/\W.cell? ⟨g,off+j,none⟩=some (.slice R[j].a R[j].data.length R[j].cap)/\Rd W w.heap.size R[j].a (u8s R[j].data)/\R[j].data.length<=140737488355328:=by
 obtain ⟨g,off,ha,hg,_,hc⟩:=h.top.at_ (i:=j) (u:=R[j].val) (by simp [hj]);obtain ⟨h1,h2⟩:=h.each R[j] (List.getElem_mem hj);exact ⟨g,off,ha,hg,(hk.cell hg λx=>x).trans hc,h1.keep hk λ_ _ x=>x,h2⟩
end
def J9r (n:Int):UInt8:=UInt8.ofNat n.toNat
theorem Qww {n:Int} (h:(Lit.int .u8 n).wf=true):u8 (J9r n)= .int .u8 n:=by
 have h1:IntKind.u8.min=0:=rfl;have h2:IntKind.u8.max=255:=rfl;simp only [Lit.wf,Bool.and_eq_true,decide_eq_true_eq,h1,h2] at h;unfold u8 J9r;rw [UInt8.toNat_ofNat_of_lt' (by show n.toNat<256;omega)];congr 1
 omega
section
variable {H:Type} {enc:TypeId×Value->H} {P:Program} {W:World} {ts:List TypeId} {ds:List (DataW H)}
theorem Ow {e:TypeId}: ∀{l:List (DataW H)} {d:DataW H},d∈l-> ∀n∈d.weights P e,n∈DataW.weightsAll P e l
 |d'::r,d,hd,n,hn=>by
  simp only [DataW.weightsAll,List.mem_append];rcases List.mem_cons.1 hd with rfl|h
  ·exact Or.inl hn
  ·exact Or.inr (Ow h n hn)
theorem Q8t:reachBytes=140737488351232:=rfl
theorem Mj (hl:laidOutB P=true) {W':World} (hb:Below W.heap.size W W'): ∀{ts:List TypeId} {vs:List Value} {ds:List (DataW H)} {ps:List MemPlace},(∀t∈ts,P.readableRec t=true/\t<P.types.size)->
  DataW.TrodAll enc P W 0 (λ_=>true) true ts vs ds ps->(∀x∈ps,x.block<W.heap.size)->DataW.TrodAll enc P W' 0 (λb=>decide (b<W.heap.size)) true ts vs ds ps
 |[],[],[],_,_,h,_=>h
 |t::ts,v::vs,d::ds,ps,ht,⟨p,q,h1,h2,hp⟩,hlt=>by
  obtain ⟨hr,hs⟩:=ht t (List.mem_cons_self ..);refine ⟨p,q,Below.trod hl hr hs h1 hb λx hx=>hlt x (by rw [hp];simp [hx]),Mj hl hb (λt h=>ht t (List.mem_cons_of_mem _ h)) h2 λx hx=>hlt x (by rw [hp];simp [hx]),hp⟩
theorem Q16 {f:Func} {s:ChangeSpec} {W':World} {args:Array Value} {p q:List MemPlace} {tb:TypeId} (hl:laidOutB P=true) (hall: ∀t∈f.params.toList,P.readableRec t=true/\t<P.types.size)
  (hb0:f.resultTypes= #[tb]) (hb1:P.underlying tb=some .bool) (hv:s.vars=[]) (hr:(s.fn H ds).results=[.lit (.bool true)]) (ha:(s.fn H ds).args=ds) (hs:(s.fn H ds).vars=[])
  (hW:DataW.Whole enc P f.params.toList s.vars false W args.toList ds [] (p++q)) (hA:DataW.TrodAll enc P W 0 (λ_=>true) true f.params.toList args.toList ds p) (hk:Kp No W W'):
  s.post enc P f false true false false W args (.bool true) W':=by
 have hlt: ∀x∈p,x.block<W.heap.size:=λx hx=>hW.lt x (List.mem_append_left _ hx);have hbw:Below W.heap.size W W':=hk.below (Nat.le_refl _) λ_ _ x=>x;refine ⟨ds,[],p++q,[],p,[],hW,?_,?_,?_,hbw.frame _,λh=>by cases h⟩
 ·rw [List.append_nil,hr,hb0];exact trodAll_mk1 ⟨1,by simp [DataW.trod,Value.cells,hb1]⟩
 ·rw [List.append_nil,ha];exact Mj hl hbw hall hA hlt
 ·rw [List.append_nil,hs,hv];rfl
end
def Qxp (c:UInt8):Bool:=decide (48<=c.toNat)&&decide (c.toNat<=57)
def Qde:Nat->List UInt8->Nat
 |a,[]=>a
 |a,c::r=>Qde (10*a+(c.toNat-48)) r
theorem I0 (a:Nat) (c:UInt8) (r:List UInt8):Qde a (c::r)=Qde (10*a+(c.toNat-48)) r:=by
 conv=>lhs;whnf
theorem Qaz (l r:List UInt8): ∀a,Qde a (l++r)=Qde (Qde a l) r:=by
 induction l with
 |nil=>intro a;rfl
 |cons c q ih=>intro a;rw [List.cons_append,I0,I0];exact ih _
theorem Qdf (a:Nat) (c:UInt8):Qde a [c]=10*a+(c.toNat-48):=by rw [I0];rfl
theorem I2 (n:Nat):Qxp (UInt8.ofNat (48+n % 10))=true/\(UInt8.ofNat (48+n % 10)).toNat=48+n % 10:=by
 have e:(UInt8.ofNat (48+n % 10)).toNat=48+n % 10:=by rw [Ov];omega
 refine ⟨?_,e⟩;unfold Qxp;rw [e,Bool.and_eq_true,decide_eq_true_iff,decide_eq_true_iff];omega
theorem O5 {u:Nat} (h: ¬u<10):Lib.decDigits u=Lib.decDigits (u/10)++[UInt8.ofNat (48+u % 10)]:=by
 rw [Lib.decDigits,dif_neg h]
theorem Vs {u:Nat} (h:u<10):Lib.decDigits u=[UInt8.ofNat (48+u % 10)]:=by
 rw [Lib.decDigits,dif_pos h,Nat.mod_eq_of_lt h]
theorem Qfn (u:Nat):(Lib.decDigits u).all Qxp=true:=by
 induction u using Nat.strongRecOn with
 |_ u ih=>
  by_cases h:u<10
  ·rw [Vs h,List.all_cons,(I2 u).1];rfl
  ·rw [O5 h,List.all_append,ih (u/10) (by omega),List.all_cons,(I2 u).1];rfl
theorem Qfo (u:Nat):Qde 0 (Lib.decDigits u)=u:=by
 induction u using Nat.strongRecOn with
 |_ u ih=>
  by_cases h:u<10
  ·rw [Vs h,Qdf,(I2 u).2];omega
  ·rw [O5 h,Qaz,ih (u/10) (by omega),Qdf,(I2 u).2];omega
theorem Nj (k:Nat): ∀u,u<10^(k+1)->(Lib.decDigits u).length<=k+1:=by
 induction k with
 |zero=>intro u h;rw [Vs (by simpa using h)];simp
 |succ k ih=>
  intro u h;by_cases h1:u<10
  ·rw [Vs h1];simp
  ·rw [O5 h1,List.length_append];have:=ih (u/10) (by rw [Nat.pow_succ] at h;omega);simp only [List.length_singleton];omega
def Q8h (n:Nat):List UInt8:=List.replicate (8-(Lib.decDigits n).length) 48++Lib.decDigits n
theorem Qfm (k:Nat) (l:List UInt8):Qde 0 (List.replicate k 48++l)=Qde 0 l:=by
 induction k with
 |zero=>rfl
 |succ k ih=>
  rw [List.replicate_succ,List.cons_append,I0];exact ih
theorem Q15 (n:Nat):Qde 0 (Q8h n)=n:=by
 unfold Q8h;rw [Qfm,Qfo]
theorem Qme (n:Nat):(Q8h n).all Qxp=true:=by
 unfold Q8h;rw [List.all_append,Qfn,Bool.and_true,List.all_eq_true];intro x hx;rw [List.eq_of_mem_replicate hx];rfl
theorem Q8i {n:Nat} (h:n<100000000):(Q8h n).length=8:=by
 have:=Nj 7 n h;unfold Q8h;rw [List.length_append,List.length_replicate];omega
def Ou (p:List UInt8) (n:Nat):List UInt8:=p++Q8h n
def Q97 (p s:List UInt8):Option Nat:=if p.isPrefixOf s&&decide ((s.drop p.length).length=8)&&(s.drop p.length).all Qxp then some (Qde 0 (s.drop p.length)) else none
theorem Qce {p s:List UInt8} {m:Nat} (h:Q97 p s=some m): ∃d,s=p++d/\d.length=8/\d.all Qxp=true/\m=Qde 0 d:=by
 unfold Q97 at h;split at h
 ·next hh=>
  simp only [Bool.and_eq_true,decide_eq_true_iff] at hh;obtain ⟨⟨h1,h2⟩,h3⟩:=hh;injection h with h
  have e:s=p++s.drop p.length:=by
   have:=List.isPrefixOf_iff_prefix.1 h1;exact (List.prefix_iff_eq_append.1 this).symm
  exact ⟨_,e,h2,h3,h.symm⟩
 ·cases h
theorem Qcd (p:List UInt8) {n:Nat} (h:n<100000000):Q97 p (Ou p n)=some n:=by
 unfold Q97 Ou
 have h1:p.isPrefixOf (p++Q8h n)=true:=by
  rw [List.isPrefixOf_iff_prefix];exact List.prefix_append _ _
 rw [List.drop_left,h1,Q8i h,Qme,Q15];rfl
theorem Qga {p:List UInt8} {m n:Nat} (h:Ou p m=Ou p n):m=n:=by
 have:=congrArg (Qde 0) (List.append_cancel_left h);rwa [Q15,Q15] at this
theorem Qgb (p:List UInt8) {n:Nat} (h:n<100000000):(Ou p n).length=p.length+8:=by
 unfold Ou;rw [List.length_append,Q8i h]
section
variable {P:Program} {ops:Array Oper} {Q:Exit->Act->World->Prop} {S:World->Prop} {ks:List Nat} {z:Nat}
def Qf7 (P:Program) (ops:Array Oper) (z:Nat) (Q:Exit->Act->World->Prop):Nat->Array Bool->Act->World->Prop
 |0,_,_,_=>False
 |fuel+1,listed,a,w=>
  Region.ready .any ops listed≠[]/\
  ∀i∈Region.ready .any ops listed,∀o,ops[i]?=some o->
   if i=z then ∀n,wpOp P ops Q i (wpAny P .any ops Q fuel (listed.setIfInBounds i true)) a (w.drewN n)
   else ∃v,YieldsIn P ops (Dr w) o v a/\Qf7 P ops z Q fuel (listed.setIfInBounds i true) (a.put o.dst v) w
theorem Mk: ∀(fuel:Nat) (listed:Array Bool) (a:Act) (w:World) (n:Nat),Qf7 P ops z Q fuel listed a w->wpAny P .any ops Q fuel listed a (w.drewN n)
 |0,_,_,_,_,h=>h.elim
 |fuel+1,listed,a,w,n,h=>by
  refine ⟨λh0=>absurd h0 h.1,λi hi=>?_⟩;obtain ⟨_,o,ho,_⟩:=mem_ready.1 hi;have h2:=h.2 i hi o ho;split at h2
  ·exact h2 n
  ·obtain ⟨v,hy,hk⟩:=h2;exact wpOp_of_qOp (C:=Dr w) (K:=λa=>Qf7 P ops z Q fuel (listed.setIfInBounds i true) a w) ⟨n,rfl⟩ (λa' w' ⟨m,hw'⟩ hh=>by subst hw';exact Mk fuel _ a' w m hh) (hy.qOp ho hk)
theorem Qf8 {w:World} {i:Nat} {oi:Oper} {v:Value} {dep:Array Bool} (hz:dep.getD z false=true) (hi:ops[i]?=some oi) (hiz:i≠z) (hsel: ∀(j:Nat) (o:Oper) cs b,ops[j]?=some o->o.op≠ .select cs b):
  ∀(fuel:Nat) (listed:Array Bool) (a:Act),
   (∀j oj,ops[j]?=some oj->j≠i->listed.getD j true=false->(∀e∈oj.after,Region.binds .any e=true->e.on≠i)->oi.apart ops oj=true)->
   (∀j,dep.getD j false=true->j≠i/\listed.getD j true=false/\ ∃o,ops[j]?=some o/\ ∃e∈o.after,Region.binds .any e=true/\(e.on=i\/dep.getD e.on false=true))->
   i∈Region.ready .any ops listed->YieldsIn P ops (Dr w) oi v a->
   Qf7 P ops z Q fuel (listed.setIfInBounds i true) (a.put oi.dst v) w->Qf7 P ops z Q (fuel+1) listed a w:=by
 intro fuel;induction fuel with
 |zero=>exact λ_ _ _ _ _ _ H=>H.elim
 |succ fuel ih=>
  intro listed a hfree L3 hr hy H;refine ⟨λh=>(by rw [h] at hr;cases hr),λj hj o ho=>?_⟩;by_cases hji:j=i
  ·subst hji;rw [hi] at ho;injection ho with ho;subst ho;rw [if_neg hiz];exact ⟨v,hy,H⟩
  ·have h1:=H.2 j (ready_mono hj hji) o ho;obtain ⟨hjun,oj,hoj,hall⟩:=mem_ready.1 hj;rw [ho] at hoj;injection hoj with hoj;subst hoj
   have Qog: ∀k,listed.getD k true=false->listed.getD k false=true->False:=λk h0 h1=>by
    rcases Nat.lt_or_ge k listed.size with h'|h'
    ·simp [h'] at h0 h1;rw [h0] at h1;cases h1
    ·simp [Array.getElem?_eq_none h'] at h1
   have hnot: ∀e∈o.after,Region.binds .any e=true->e.on≠i:=λe he hb heq=>Qog i (mem_ready.1 hr).1 (heq▸hall e he hb)
   have hnd:dep.getD j false=false:=by
    cases hd:dep.getD j false with
    |false=>rfl
    |true=>
     obtain ⟨_,_,o',ho',e,he,hb,h⟩:=L3 j hd;rw [ho] at ho';injection ho' with ho';subst ho';rcases h with h|h
     ·exact absurd h (hnot e he hb)
     ·exact (Qog e.on (L3 e.on h).2.1 (hall e he hb)).elim
   have hjz:j≠z:=λe=>by
    subst e;rw [hz] at hnd;cases hnd
   have Qds: ∀k,dep.getD k false=true->k≠i/\(listed.setIfInBounds j true).getD k true=false/\ ∃o,ops[k]?=some o/\ ∃e∈o.after,Region.binds .any e=true/\(e.on=i\/dep.getD e.on false=true):=λk hk=>by
    obtain ⟨k1,k2,k3⟩:=L3 k hk;refine ⟨k1,?_,k3⟩;rw [getD_set_ne true (λe=>by subst e;rw [hnd] at hk;cases hk)];exact k2
   have hap:=hfree j o ho hji hjun hnot
   have hfree': ∀k ok,ops[k]?=some ok->k≠i->(listed.setIfInBounds j true).getD k true=false->
     (∀e∈ok.after,Region.binds .any e=true->e.on≠i)->oi.apart ops ok=true:=λk ok hk hki hun hno=>by
    refine hfree k ok hk hki ?_ hno;by_cases hjk:j=k
    ·subst hjk;exact hjun
    ·rw [getD_set_ne true hjk] at hun;exact hun
   have hcm:(listed.setIfInBounds i true).setIfInBounds j true=(listed.setIfInBounds j true).setIfInBounds i true:=Array.setIfInBounds_comm _ _ (λe=>hji e.symm);rw [if_neg hjz] at h1⊢;obtain ⟨u,hu,hK⟩:=h1;obtain ⟨a1,a2,a3⟩:=Oper.apart_spec hap;refine ⟨u,hu.of_same (execOp_put o (λcs b=>hsel j o cs b ho) a oi.dst v a1).symm (wanted_put o a oi.dst v a1).symm,?_⟩
   refine ih (listed.setIfInBounds j true) _ hfree' Qds (ready_mono hr (Ne.symm hji))
    (hy.of_same (execOp_put oi (λcs b=>hsel i oi cs b hi) a o.dst u a3) (wanted_put oi a o.dst u a3)) ?_
   rw [<-hcm,<-Act.put_comm a v u a2];exact hK
def upto (Q:Exit->Act->World->Prop) (K:Act->World->Prop):Exit->Act->World->Prop
 | .normal,a,w=>K a w
 |e,a,w=>Q e a w
def Q23 (P:Program) (ops:Array Oper) (Q:Exit->Act->World->Prop):List Nat->Act->World->Prop
 |[],a,w=>Q .normal a w
 |i::r,a,w=> ∃o,ops[i]?=some o/\wpList P ops (upto Q (Q23 P ops Q r)) [o] a w
theorem Li {i:Nat} {o:Oper} {r:List Nat} {a:Act} {w:World} (ho:ops[i]?=some o) (h:wpList P ops (upto Q (Q23 P ops Q r)) [o] a w):Q23 P ops Q (i::r) a w:=⟨o,ho,h⟩
theorem Qnd {K:Act->World->Prop} (h:LetsOut (upto Q K)):LetsOut Q:=h
theorem Qrk {o:Oper} {a:Act} {w:World} {K:Act->World->Prop} (h:o.wp P a w K (upto Q K)):o.wp P a w K Q:=by
 unfold Oper.wp at*;generalize (execOp a.eval o).run P w=r at*
 cases r with
 |ok n w'=>
  cases n<;>simp only [Oper.upon] at h⊢
  case value=>exact h
  case skip=>exact h
  case defer=>exact h
  case row=>exact h
  case enter f args=>
   refine Calls.mono h λe w'' he=>?_;cases e with
   |returned v=>exact he
   |panicked c=>exact he
   |outgrown=>exact he
 |halt x w'=>cases x<;>simp only [Oper.upon] at h⊢ <;>exact h
theorem Hn {i:Nat} {o:Oper} {a:Act} {w:World} {K:Act->World->Prop} (ho:ops[i]?=some o) (h:wpList P ops (upto Q K) [o] a w):wpOp P ops Q i K a w:=by
 unfold wpOp;simp only [ho];unfold wpList at h;split
 ·rename_i hw
  rw [if_pos hw] at h;refine h.imp (λh=>Qrk ?_) (λh=>⟨h.1,Qnd h.2⟩);exact h
 ·rename_i hw
  rw [if_neg hw] at h;exact h
def Cs (ops:Array Oper):List Nat->Array Bool->Bool
 |[],listed=>(Region.ready .any ops listed).isEmpty
 |t::r,listed=>Region.ready .any ops listed==[t]&&Cs ops r (listed.setIfInBounds t true)
theorem Hm: ∀(r:List Nat) (listed:Array Bool) (a:Act) (w:World),Cs ops r listed=true->Q23 P ops Q r a w->wpAny P .any ops Q r.length listed a w
 |[],listed,a,w,hB,h=>by
  simp only [Cs,List.isEmpty_iff] at hB;exact ⟨hB,h⟩
 |t::r,listed,a,w,hB,h=>by
  simp only [Cs,Bool.and_eq_true,beq_iff_eq] at hB;obtain ⟨o,ho,h⟩:=h;refine ⟨λh0=>(by rw [h0] at hB;cases hB.1),λi hi=>?_⟩;rw [hB.1,List.mem_singleton] at hi;subst hi;exact wpOp_mono (λa w hh=>Hm r _ a w hB.2 hh) (Hn ho h)
def Q12 (ops:Array Oper) (ks:List Nat) (z:Nat) (tail:List Nat):List Nat->Array Bool->Bool
 |[],listed=>Cs ops (z::tail) listed
 |i::rest,listed=>
  (Region.ready .any ops listed).contains i&&Region.free .any ops listed i&&i !=z&&decide (ks.getD i 2<2)&&
  (Region.ready .any ops listed==[i]||I1 ops listed (V3 ops i) i z)&&
  Q12 ops ks z tail rest (listed.setIfInBounds i true)
def Qsi (ops:Array Oper) (ks:List Nat) (z:Nat) (tail pre:List Nat):Bool:=Region.noSelect ops&&pre.length+1+tail.length==ops.size&&Q12 ops ks z tail pre (Array.replicate ops.size false)
abbrev Qpj (P:Program) (ops:Array Oper) (Q:Exit->Act->World->Prop) (z:Nat) (tail:List Nat):Exit->Act->World->Prop:=Qmb λa w=>Q23 P ops Q (z::tail) a w
theorem B1 (hSd: ∀w n,S w->S (w.drewN n)) (hs:Region.noSelect ops=true) (tail:List Nat): ∀(pre:List Nat) (listed:Array Bool) (a:Act) (w:World),S w->
  Q12 ops ks z tail pre listed=true->Ji P ops ks S (Qpj P ops Q z tail) pre a w->Qf7 P ops z Q (pre.length+1+tail.length) listed a w
 |[],listed,a,w,_,hB,h=>by
  simp only [Q12,Cs,Bool.and_eq_true,beq_iff_eq] at hB;have e:([]:List Nat).length+1+tail.length=tail.length+1:=by simp;omega
  rw [e];refine ⟨λh0=>(by rw [h0] at hB;cases hB.1),λj hj oj hoj=>?_⟩;rw [hB.1,List.mem_singleton] at hj;subst hj;rw [if_pos rfl];intro n;obtain ⟨o,ho,h⟩:=h n;exact wpOp_mono (λa w hh=>Hm tail _ a w hB.2 hh) (Hn ho h)
 |i::rest,listed,a,w,hS,hB,h=>by
  obtain ⟨o,ho,h⟩:=h;simp only [Q12,Bool.and_eq_true,bne_iff_ne,decide_eq_true_iff] at hB;obtain ⟨⟨⟨⟨⟨hr,hf⟩,hiz⟩,hk2⟩,hk⟩,hB'⟩:=hB;have Gs:i∈Region.ready .any ops listed:=by simpa using hr
  have hy: ∃v,YieldsIn P ops (Dr w) o v a/\Ji P ops ks S (Qpj P ops Q z tail) rest (a.put o.dst v) w:=by
   have hko:ks.getD i 2=0\/ks.getD i 2=1:=by omega
   rcases hko with hko|hko
   ·rw [hko] at h;obtain ⟨v,hy,hK⟩:=h;exact ⟨v,Zf (λn=>hSd w n hS) hy,hK⟩
   ·rw [hko] at h;exact h
  obtain ⟨v,hy,hK⟩:=hy;have e:(i::rest).length+1+tail.length=(rest.length+1+tail.length)+1:=by simp;omega
  rw [e];have IH:=B1 hSd hs tail rest _ _ _ hS hB' hK;simp only [Bool.or_eq_true,beq_iff_eq] at hk;rcases hk with hk|hk
  ·refine ⟨λh0=>(by rw [h0] at hk;cases hk),λj hj oj hoj=>?_⟩;rw [hk,List.mem_singleton] at hj;subst hj;rw [ho] at hoj;injection hoj with hoj;subst hoj;rw [if_neg hiz];exact ⟨v,hy,IH⟩
  ·exact Qf8 (Uy hk).1 ho hiz (Region.noSelect_spec hs) _ listed a (Region.free_spec ho hf) (Uy hk).2 Gs hy IH
theorem Ml {id:Nat} {a:Act} {w:World} {l:List Oper} (S:World->Prop) (ks pre:List Nat) (z:Nat) (tail:List Nat) (hm:P.follows .mixedOrders=true) (hB:Qsi l.toArray ks z tail pre=true)
  (hSd: ∀w n,S w->S (w.drewN n)) (hS:S w) (h:Ji P l.toArray ks S (Qpj P l.toArray Q z tail) pre a w):(Code.region id l.toArray true).wp P Q a w:=by
 simp only [Qsi,Bool.and_eq_true,beq_iff_eq] at hB;refine wp_region_any hm ?_;have:=Mk _ (Array.replicate l.toArray.size false) a w 1 (B1 hSd hB.1.1 tail pre _ a _ hS hB.2 h);rw [hB.1.2] at this;exact this
theorem Q41 {a:Act} {w:World} (h:Q .normal a w):upto Q (Q23 P ops Q []) .normal a w:=h
theorem Qdj {tail:List Nat} {a:Act} {w:World} (h: ∀n,Q23 P ops Q (z::tail) a (w.drewN n)):Ji P ops ks S (Qpj P ops Q z tail) [] a w:=h
end
end Go.Mer
