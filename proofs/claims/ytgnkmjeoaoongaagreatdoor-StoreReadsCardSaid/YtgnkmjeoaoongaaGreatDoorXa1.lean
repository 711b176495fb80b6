/-
  Mem, Disk.
-/
import Derived.Lib.Hide
import Derived.Test.YtgnkmjeoaoongaaGreatDoorProg
import Derived.Test.YtgnkmjeoaoongaaGreatDoorXa0
namespace Go.Mer
open Go Go.RowKit
open Go.ChangeMaps (setBlock)
structure Kp (S:Nat->Prop) (w w':World):Prop where
 os:w'.os=w.os
 tape:w'.tape=w.tape
 output:w'.output=w.output
 size:w.heap.size<=w'.heap.size
 block: ∀k,k<w.heap.size-> ¬S k->w'.heap[k]?=w.heap[k]?
def No:Nat->Prop:=λ_=>False
def One (b:Nat):Nat->Prop:=λk=>k=b
def Qv (F F':Nat->Prop) (w:World):Prop:= ∀k,F' k->F k\/w.heap.size<=k
section
variable {S T U:Nat->Prop} {w a b c w':World}
theorem Kp.refl (S:Nat->Prop) (w:World):Kp S w w:=⟨rfl,rfl,rfl,Nat.le_refl _,λ_ _ _=>rfl⟩
theorem Kp.trans (h:Kp S a b) (k:Kp T b c) (hT: ∀i,i<a.heap.size->T i->S i):Kp S a c:=
 ⟨k.os.trans h.os,k.tape.trans h.tape,k.output.trans h.output,Nat.le_trans h.size k.size,λi hi hn=>(k.block i (Nat.lt_of_lt_of_le hi h.size) (λht=>hn (hT i hi ht))).trans (h.block i hi hn)⟩
theorem Kp.trans_same (h:Kp S a b) (k:Kp S b c):Kp S a c:=h.trans k λ_ _ x=>x
theorem Kp.trans_no (h:Kp S a b) (k:Kp No b c):Kp S a c:=h.trans k λ_ _ x=>x.elim
theorem Kp.mono (h:Kp S a b) (hS: ∀i,i<a.heap.size->S i->T i):Kp T a b:=
 ⟨h.os,h.tape,h.output,h.size,λi hi hn=>h.block i hi λhs=>hn (hS i hi hs)⟩
theorem Kp.of_no (h:Kp No a b):Kp S a b:=h.mono λ_ _ x=>x.elim
theorem Kp.drewN (h:Kp S a b) (n:Nat):Kp S a (b.drewN n):=⟨h.os,h.tape,h.output,h.size,h.block⟩
theorem Kp.drew (h:Kp S a b):Kp S a b.drew:=⟨h.os,h.tape,h.output,h.size,h.block⟩
theorem Kp.of_drewN {n:Nat} (h:Kp S (a.drewN n) b):Kp S a b:=⟨h.os,h.tape,h.output,h.size,h.block⟩
theorem Kp.from_drewN (h:Kp S a b) (n:Nat):Kp S (a.drewN n) b:=⟨h.os,h.tape,h.output,h.size,h.block⟩
theorem Kp.alloc (h:Kp S a b) (o:Obj):Kp S a (b.alloc o):=
 h.trans_no ⟨rfl,rfl,rfl,by simp,λk hk _=>Below.heap_alloc b o k hk⟩
theorem Kp.setCell (h:Kp S a b) {p:Addr} (hp:S p.block\/a.heap.size<=p.block) (u:Value):Kp S a (b.setCell p u):=
 h.trans (T:=One p.block) ⟨rfl,rfl,rfl,by simp [World.setCell],λk _ hn=>Below.heap_setCell _ _ _ _ (λe=>hn e)⟩
  (λi hi hT=>by
   rw [show i=p.block from hT] at hi⊢;rcases hp with hp|hp
   ·exact hp
   ·omega)
theorem Kp.setBlock (h:Kp S a b) {k:Nat} (hp:S k\/a.heap.size<=k) (o:Obj):Kp S a (setBlock b k o):=
 h.trans (T:=One k) ⟨rfl,rfl,rfl,by simp [ChangeMaps.setBlock],λi _ hn=>by
   show (b.heap.setIfInBounds k o)[i]?=_
   rw [Array.getElem?_setIfInBounds_ne (λe=>hn e.symm)]⟩
  (λi hi hT=>by
   rw [show i=k from hT] at hi⊢;rcases hp with hp|hp
   ·exact hp
   ·omega)
theorem Kp.cell (h:Kp S w w') {p:Addr} (hp:p.block<w.heap.size) (hn: ¬S p.block):w'.cell? p=w.cell? p:=World.cell?_of_block (w:=w) (h.block p.block hp hn)
theorem Kp.frozen (h:Kp S w w') {p:Addr} (hp:p.block<w.heap.size) (hn: ¬S p.block):w'.frozen? p=w.frozen? p:=World.frozen?_of_block (w:=w) (h.block p.block hp hn)
theorem Kp.get (h:Kp S w w') {k:Nat} {o:Obj} (hk:w.heap[k]?=some o) (hn: ¬S k):w'.heap[k]?=some o:=
 (h.block k (Array.getElem?_eq_some_iff.1 hk).1 hn).trans hk
theorem Kp.below (h:Kp S w w') {B:Nat} (hB:B<=w.heap.size) (hS: ∀k,k<B-> ¬S k):Below B w w':=
 ⟨h.os,h.tape,h.output,h.size,λk hk=>h.block k (by omega) (hS k hk)⟩
theorem Kp.of_below {B:Nat} (h:Below B w w') (hS: ∀k,k<w.heap.size->B<=k->S k):Kp S w w':=
 ⟨h.os,h.tape,h.output,h.size,λk hk hn=>h.block k (by
  rcases Nat.lt_or_ge k B with h'|h'
  ·exact h'
  ·exact absurd (hS k hk h') hn)⟩
theorem Kp.lt (h:Kp S w w') {k:Nat} (hk:k<w.heap.size):k<w'.heap.size:=Nat.lt_of_lt_of_le hk h.size
theorem Q3 {k:Nat} {o:Obj} (hk:w.heap[k]?=some o):k<w.heap.size:=(Array.getElem?_eq_some_iff.1 hk).1
theorem Qv.refl (F:Nat->Prop) (w:World):Qv F F w:=λ_ h=> .inl h
theorem Qv.trans {F F' F'':Nat->Prop} (h:Qv F F' w) (k:Qv F' F'' w') (hs:w.heap.size<=w'.heap.size):Qv F F'' w:=λi hi=>by
 rcases k i hi with hi|hi
 ·exact h i hi
 ·exact .inr (by omega)
end
theorem Q0 {w:World} {g:Nat} {cs:Array Value} {t:TypeId} (h:w.heap[g]?=some (.cells cs t (0,0))) (i:Nat):w.cell? ⟨g,i,none⟩=cs[i]?:=cell_of_row w g i cs t (0,0) h
theorem Qc {w:World} {g:Nat} {cs:Array Value} {t:TypeId} (h:w.heap[g]?=some (.cells cs t (0,0))) (i:Nat):w.frozen? ⟨g,i,none⟩=false:=by simp [World.frozen?,h]
theorem Qh {w:World} {g:Nat} {cs:Array Value} {t:TypeId} (h:w.heap[g]?=some (.cells cs t (0,0))) (i:Nat) (u:Value):(w.setCell ⟨g,i,none⟩ u).heap[g]?=some (.cells (cs.setIfInBounds i u) t (0,0)):=by
 simp [World.setCell,Array.getElem?_modify,h]
theorem Cg {w:World} {g:Nat} {o:Obj} (h:w.heap[g]?=some o) {p:Addr} (hp:g≠p.block) (u:Value):(w.setCell p u).heap[g]?=some o:=(Below.heap_setCell w p u g hp).trans h
theorem J6 {w:World} {g:Nat} {o:Obj} (h:w.heap[g]?=some o) (o':Obj):(w.alloc o').heap[g]?=some o:=(Below.heap_alloc w o' g (Q3 h)).trans h
theorem Up {w:World} {k:Nat} (hk:k<w.heap.size) (o:Obj):(setBlock w k o).heap[k]?=some o:=by simp [setBlock,hk]
theorem Q7 {w:World} {g g':Nat} {cs cs':Array Value} {t t':TypeId} {f f':Nat×Nat} (h:w.heap[g]?=some (.cells cs t f)) (h':w.heap[g']?=some (.cells cs' t' f')) (hne:t≠t'):g≠g':=by
 rintro rfl;rw [h] at h';injection h' with h';injection h' with _ ht;exact hne ht
theorem Zc {w:World} {g g':Nat} {cs:Array Value} {t:TypeId} {f:Nat×Nat} {es:Array MapEntry} {c:Nat} (h:w.heap[g]?=some (.cells cs t f)) (h':w.heap[g']?=some (.map es c)):g≠g':=by
 rintro rfl;rw [h] at h';cases h'
def u8 (b:UInt8):Value:= .int .u8 (b.toNat:Int)
def u8s (l:List UInt8):List Value:=l.map u8
theorem Zz (l:List UInt8):(u8s l).length=l.length:=by simp [u8s]
theorem Ax (l k:List UInt8):u8s (l++k)=u8s l++u8s k:=by simp [u8s]
theorem Qik (l:List UInt8) (i:Nat):(u8s l)[i]?=(l[i]?).map u8:=by simp [u8s]
theorem Kk (l:List UInt8): ∀u∈u8s l,u.oneCell'=true:=by
 intro u hu;obtain ⟨b,_,rfl⟩:=List.mem_map.1 hu;rfl
def Rd (w:World) (B:Nat) (a:Option Addr) (xs:List Value):Prop:=
 0<xs.length-> ∃g off,a=some ⟨g,off,none⟩/\g<B/\B<=w.heap.size/\ ∀j u,xs[j]?=some u->w.cell? ⟨g,off+j,none⟩=some u
section
variable {w w':World} {B:Nat} {a:Option Addr} {xs:List Value}
theorem Rd.nil (w:World) (B:Nat) (a:Option Addr):Rd w B a []:=λh=>absurd h (by simp)
theorem Rd.keep {S:Nat->Prop} (h:Rd w B a xs) (hk:Kp S w w') (hS: ∀k,k<B-> ¬S k):Rd w' B a xs:=λhx=>by
 obtain ⟨g,off,ha,hg,hB,hc⟩:=h hx;exact ⟨g,off,ha,hg,Nat.le_trans hB hk.size,λj u hu=>(hk.cell (p:=⟨g,off+j,none⟩) (by show g<_;omega) (hS g hg)).trans (hc j u hu)⟩
theorem Rd.keep_map {S:Nat->Prop} (h:Rd w B a xs) (hk:Kp S w w') (hS: ∀k o,S k->w.cell? ⟨k,o,none⟩=none):Rd w' B a xs:=λhx=>by
 obtain ⟨g,off,ha,hg,hB,hc⟩:=h hx
 have hgS: ¬S g:=λhs=>by
  have h0:=hc 0 xs[0] (by simp);rw [hS g _ hs] at h0;cases h0
 exact ⟨g,off,ha,hg,Nat.le_trans hB hk.size,λj u hu=>(hk.cell (p:=⟨g,off+j,none⟩) (by show g<_;omega) hgS).trans (hc j u hu)⟩
theorem Qfd {w:World} {m:Nat} {es:Array MapEntry} {c:Nat} (h:w.heap[m]?=some (.map es c)) (o:Nat):w.cell? ⟨m,o,none⟩=none:=by simp [World.cell?,h]
theorem Rd.drewN (h:Rd w B a xs) (n:Nat):Rd (w.drewN n) B a xs:=h
theorem Rd.mono (h:Rd w B a xs) {B':Nat} (hB:B<=B') (hs:B'<=w.heap.size):Rd w B' a xs:=λhx=>by
 obtain ⟨g,off,ha,hg,_,hc⟩:=h hx;exact ⟨g,off,ha,by omega,hs,hc⟩
theorem Rd.at_ (h:Rd w B a xs) {i:Nat} {u:Value} (hu:xs[i]?=some u): ∃g off,a=some ⟨g,off,none⟩/\g<B/\B<=w.heap.size/\w.cell? ⟨g,off+i,none⟩=some u:=by
 have hi:=(List.getElem?_eq_some_iff.1 hu).1;obtain ⟨g,off,ha,hg,hB,hc⟩:=h (by omega);exact ⟨g,off,ha,hg,hB,hc i u hu⟩
theorem Rd.byte {l:List UInt8} (h:Rd w B a (u8s l)) {i:Nat} (hi:i<l.length):
  ∃g off,a=some ⟨g,off,none⟩/\g<B/\B<=w.heap.size/\w.cell? ⟨g,off+i,none⟩=some (.int .u8 (l[i].toNat:Int)):=
 h.at_ (by simp [u8s,u8,hi])
theorem Rd.drop (h:Rd w B a xs) (i:Nat):Rd w B (a.map (·.add i)) (xs.drop i):=λhx=>by
 rw [List.length_drop] at hx;obtain ⟨g,off,rfl,hg,hB,hc⟩:=h (by omega);refine ⟨g,off+i,?_,hg,hB,λj u hu=>?_⟩
 ·simp only [Option.map_some,Addr.add];split
  ·rename_i e;subst e;rfl
  ·rfl
 ·rw [List.getElem?_drop] at hu;have:=hc _ u hu;rwa [<-Nat.add_assoc] at this
theorem Rd.take (h:Rd w B a xs) (i:Nat):Rd w B a (xs.take i):=λhx=>by
 rw [List.length_take] at hx;obtain ⟨g,off,ha,hg,hB,hc⟩:=h (by omega);refine ⟨g,off,ha,hg,hB,λj u hu=>hc j u ?_⟩;rw [List.getElem?_take] at hu;split at hu
 ·exact hu
 ·cases hu
theorem Rd.row {cs:Array Value} {t:TypeId} {g off n:Nat} (hg:w.heap[g]?=some (.cells cs t (0,0))) (hx:(cs.toList.drop off).take n=xs) (hgB:g<B) (hB:B<=w.heap.size):Rd w B (some ⟨g,off,none⟩) xs:=λ_=>
 ⟨g,off,rfl,hgB,hB,λj u hu=>by
  rw [Q0 hg];subst hx;rw [List.getElem?_take] at hu;split at hu
  ·rw [List.getElem?_drop] at hu;simpa using hu
  ·cases hu⟩
end
def Own (w:World) (e:TypeId) (sz:Nat) (v:Value) (n:Nat) (xs:List Value):Prop:=
 xs.length=n*sz/\ ∃a cap,v= .slice a n cap/\n<=cap/\cap<=maxLen/\(a=none->cap=0)/\
  ∀ad,a=some ad-> ∃g off cur,ad=⟨g,off,none⟩/\w.heap[g]?=some (.cells cur e (0,0))/\off+cap*sz<=cur.size/\(cur.toList.drop off).take (n*sz)=xs
section
variable {w w':World} {e:TypeId} {sz n:Nat} {v:Value} {xs:List Value}
theorem Own.nil (w:World) (e:TypeId) (sz:Nat):Own w e sz (.slice none 0 0) 0 []:=
 ⟨by simp,none,0,rfl,Nat.le_refl _,by simp [maxLen],λ_=>rfl,λ_ h=>by cases h⟩
theorem Own.keep {S:Nat->Prop} (h:Own w e sz v n xs) (hk:Kp S w w') (hS: ∀g,v.ownBlock=some g-> ¬S g):Own w' e sz v n xs:=by
 obtain ⟨hl,a,cap,rfl,h1,h2,h3,h4⟩:=h;refine ⟨hl,a,cap,rfl,h1,h2,h3,λad had=>?_⟩;subst had;obtain ⟨g,off,cur,rfl,hg,hr⟩:=h4 ad rfl;exact ⟨g,off,cur,rfl,hk.get hg (hS g rfl),hr⟩
theorem Own.drewN (h:Own w e sz v n xs) (k:Nat):Own (w.drewN k) e sz v n xs:=h
theorem Own.lt (h:Own w e sz v n xs): ∀g,v.ownBlock=some g->g<w.heap.size:=by
 obtain ⟨_,a,cap,rfl,_,_,_,h4⟩:=h;intro g hg;cases a with
 |none=>simp [Value.ownBlock] at hg
 |some ad=>
  obtain ⟨g',off,cur,rfl,hgg,_⟩:=h4 ad rfl;simp [Value.ownBlock] at hg
  subst hg;exact Q3 hgg
theorem Own.type (h:Own w e sz v n xs): ∀g,v.ownBlock=some g-> ∃cur,w.heap[g]?=some (.cells cur e (0,0)):=by
 obtain ⟨_,a,cap,rfl,_,_,_,h4⟩:=h;intro g hg;cases a with
 |none=>simp [Value.ownBlock] at hg
 |some ad=>
  obtain ⟨g',off,cur,rfl,hgg,_⟩:=h4 ad rfl;simp [Value.ownBlock] at hg
  subst hg;exact ⟨cur,hgg⟩
theorem Own.rd (h:Own w e sz v n xs): ∃a cap,v= .slice a n cap/\n<=cap/\Rd w w.heap.size a xs:=by
 obtain ⟨hl,a,cap,rfl,h1,h2,h3,h4⟩:=h;refine ⟨a,cap,rfl,h1,λhx=>?_⟩;cases a with
 |none=>
  have:=h3 rfl;have:n=0:=by omega
  subst this;simp at hl
  rw [hl] at hx;simp at hx
 |some ad=>
  obtain ⟨g,off,cur,rfl,hg,_,hr⟩:=h4 ad rfl;exact Rd.row hg hr (Q3 hg) (Nat.le_refl _) hx
theorem Own.rd' {a:Option Addr} {cap m:Nat} (h:Own w e sz (.slice a m cap) n xs):Rd w w.heap.size a xs:=by
 obtain ⟨a',c',e',_,hr⟩:=h.rd;injection e' with e1 _ _;rw [e1];exact hr
theorem Own.made (w:World) (e:TypeId) (sz:Nat) (cur:Array Value) (n cap:Nat) (hn:n<=cap) (hm:cap<=maxLen) (hs:cap*sz<=cur.size) (hx:cur.toList.take (n*sz)=xs):
  Own (w.alloc (.cells cur e)) e sz (.slice (some ⟨w.heap.size,0,none⟩) n cap) n xs:=by
 refine ⟨?_,some ⟨w.heap.size,0,none⟩,cap,rfl,hn,hm,λh=>(by cases h),λad h=>?_⟩
 ·rw [<-hx,List.length_take,Array.length_toList];have:n*sz<=cap*sz:=Nat.mul_le_mul_right _ hn;omega
 ·injection h with h;subst h;exact ⟨w.heap.size,0,cur,rfl,heap_alloc_new w _,by omega,by simpa using hx⟩
end
def Src (w:World) (sz:Nat) (x:Value) (m:Nat) (news:List Value):Prop:=
 news.length=m*sz/\ ∃a c,x= .slice a m c/\Rd w w.heap.size a news
section
variable {P:Program} {w:World}
theorem Src.first {sz:Nat} {x:Value} {m:Nat} {news:List Value} (h:Src w sz x m news):(Builtin.firstCells sz m x).run P w= .ok news.toArray w/\(Builtin.lenOf x).run P w= .ok m w:=by
 obtain ⟨hl,a,c,rfl,hr⟩:=h;refine ⟨?_,rfl⟩;rcases Nat.eq_zero_or_pos news.length with h0|h0
 ·have hn:news=[]:=List.eq_nil_of_length_eq_zero h0;subst hn;have hm:m*sz=0:=by simpa using hl.symm
  cases a with
  |none=>rfl
  |some ad=>simp [Builtin.firstCells,hm,loadCells,loadCellsFrom]
 ·obtain ⟨g,off,rfl,_,_,hc⟩:=hr h0;refine run_firstCells_some w sz m ⟨g,off,none⟩ m c news hl λj u hu=>?_;have:=hc j u hu;have hadd:(⟨g,off,none⟩:Addr).add j=⟨g,off+j,none⟩:=by unfold Addr.add;split<;>simp_all
  rwa [hadd]
theorem Jq (g off j:Nat):(⟨g,off,none⟩:Addr).add j=⟨g,off+j,none⟩:=by unfold Addr.add;split<;>simp_all
theorem Ec (g:Nat) (e:TypeId): ∀(news:List Value) (w:World) (off:Nat) (cur:Array Value),w.heap[g]?=some (.cells cur e (0,0))->off+news.length<=cur.size->
  ∃cur',(w.setCells g off news).heap[g]?=some (.cells cur' e (0,0))/\cur'.size=cur.size/\cur'.toList=cur.toList.take off++news++cur.toList.drop (off+news.length)
 |[],w,off,cur,hg,_=>⟨cur,by simpa [World.setCells] using hg,rfl,by simp⟩
 |x::r,w,off,cur,hg,hs=>by
  simp only [List.length_cons] at hs;obtain ⟨cur',h1,h2,h3⟩:=Ec g e r (w.setCell ⟨g,off,none⟩ x) (off+1) (cur.setIfInBounds off x) (Qh hg off x) (by simp;omega);refine ⟨cur',by simpa [World.setCells] using h1,by simpa using h2,?_⟩;rw [h3];have hlt:off<cur.toList.length:=by simp;omega
  simp only [Array.toList_setIfInBounds,List.length_cons];rw [List.take_add_one,List.getElem?_set_self hlt,List.take_set_of_le (Nat.le_refl _),List.drop_set_of_lt (by omega)];simp [Nat.add_assoc,Nat.add_comm 1]
theorem Jk (t t' ty e:TypeId) (i:TypeInfo) (z:Value) (sz bytes:Nat) (ht:P.underlying t=some (.slice e)) (ht': ∃e',P.underlying t'=some (.slice e'))
  (hi:P.info? e=some i) (hz:i.zero=some z) (hsize:i.size=sz) (hby:i.bytes=bytes) (hzs:z.cells.size=sz)
  (v:Value) (n:Nat) (xs:List Value) (hown:Own w e sz v n xs) (x:Value) (m:Nat) (news:List Value) (hx:Src w sz x m news) (h1: ∀u∈news,u.oneCell'=true)
  (h63:n+m<=maxLen) (hbytes:(n+m)*bytes<=140737488355328):
  ∃v' w',(Builtin.append_ #[t,t'] ty #[v,x]).run P w= .ok v' w'/\Own w' e sz v' (n+m) (xs++news)/\Kp (λk=>v.ownBlock=some k) w w'/\
   (v'.ownBlock=v.ownBlock\/ ∃g,v'.ownBlock=some g/\w.heap.size<=g):=by
 obtain ⟨hl,a,cap,rfl,hnc,hcm,hnil,hblk⟩:=hown;obtain ⟨hfc,hln⟩:=hx.first (P:=P)
 have hnl:=hx.1;obtain ⟨e',ht'⟩:=ht';by_cases hroom:n+m<=cap
 ·cases a with
  |none=>
   have h0:=hnil rfl;have hn:n=0:=by omega
   have hm:m=0:=by omega
   subst hn;subst hm;have hne:news=[]:=List.eq_nil_of_length_eq_zero (by simpa using hnl);subst hne;refine ⟨.slice none 0 cap,w,?_,⟨by simpa using hl,none,cap,by simp,by omega,hcm,hnil,λ_ h=>by cases h⟩,Kp.refl _ _, .inl rfl⟩;simp [Builtin.append_,run_underlying ht,run_underlying ht',sizeOf,typeInfo,hi,hln,hsize,hfc]
  |some ad=>
   obtain ⟨g,off,cur,rfl,hg,hfit,hcur⟩:=hblk ad rfl
   have hle:off+n*sz+news.length<=cur.size:=by
    rw [hnl];have:(n+m)*sz<=cap*sz:=Nat.mul_le_mul_right _ hroom;rw [Nat.add_mul] at this;omega
   have hst:=run_storeCells_cells (P:=P) g (off+n*sz) news 0 w (by
     intro j hj;rw [Nat.add_zero,Q0 hg];simp;omega) (by intro j _;exact Qc hg _) h1
   obtain ⟨cur',hg',hsz',hcur'⟩:=Ec g e news w (off+n*sz) cur hg hle
   have hkp:Kp (λk=>(Value.slice (some ⟨g,off,none⟩) n cap).ownBlock=some k) w (w.setCells g (off+n*sz) news):=by
    have key: ∀(l:List Value) (o:Nat) (a:World),Kp (One g) a (a.setCells g o l):=by
     intro l;induction l with
     |nil=>intro o a;exact Kp.refl _ _
     |cons u l ih=>
      intro o a;have h1:Kp (One g) a (a.setCell ⟨g,o,none⟩ u):=(Kp.refl (One g) a).setCell (p:=⟨g,o,none⟩) (.inl rfl) u;have h2:=h1.trans_same (ih (o+1) (a.setCell ⟨g,o,none⟩ u));simpa [World.setCells] using h2
    exact (key news _ w).mono λk _ hk=>by rw [show k=g from hk];rfl
   refine ⟨.slice (some ⟨g,off,none⟩) (n+m) cap,w.setCells g (off+n*sz) news,?_,⟨?_,some ⟨g,off,none⟩,cap,rfl,hroom,hcm,λh=>(by cases h),λad h=>?_⟩,hkp, .inl rfl⟩
   ·simp only [Nat.add_zero] at hst;simp [Builtin.append_,run_underlying ht,run_underlying ht',sizeOf,typeInfo,hi,hln,hsize,hfc,hroom,Jq,hst]
   ·rw [List.length_append,hl,hnl,Nat.add_mul]
   ·injection h with h;subst h;refine ⟨g,off,cur',rfl,hg',by rw [hsz'];exact hfit,?_⟩;rw [hcur',<-hcur]
    have e1:(cur.toList.take (off+n*sz)++news++cur.toList.drop (off+n*sz+news.length)).drop off=(cur.toList.drop off).take (n*sz)++news++cur.toList.drop (off+n*sz+news.length):=by
     have hlt:off<=(cur.toList.take (off+n*sz)).length:=by simp;omega
     rw [List.append_assoc,List.drop_append_of_le_length hlt,List.append_assoc];congr 1
     rw [List.drop_take];congr 1
     omega
    rw [e1];have e2:((cur.toList.drop off).take (n*sz)++news).length=(n+m)*sz:=by rw [hcur,List.length_append,hl,hnl,Nat.add_mul]
    rw [<-e2,List.take_left]
 ·have hge:=grownCap_ge w (n+m) cap e;have hcm':grownCap w (n+m) cap e<=maxLen:=grownCap_le_maxLen w (n+m) cap e h63
  have hold:(Builtin.firstCells sz n (.slice a n cap)).run P w.drew= .ok xs.toArray w.drew:=by
   cases a with
   |none=>
    have h0:=hnil rfl;have hn:n=0:=by omega
    subst hn;have:xs=[]:=List.eq_nil_of_length_eq_zero (by simpa using hl);subst this;rfl
   |some ad=>
    obtain ⟨g,off,cur,rfl,hg,hfit,hcur⟩:=hblk ad rfl;refine run_firstCells_some w.drew sz n ⟨g,off,none⟩ n cap xs hl λj u hu=>?_;rw [Jq,World.cell?_drew,Q0 hg];rw [<-hcur,List.getElem?_take] at hu;split at hu
    ·rw [List.getElem?_drop] at hu;simpa using hu
    ·cases hu
  have hfc':(Builtin.firstCells sz m x).run P w.drew= .ok news.toArray w.drew:=(Src.first (w:=w.drew) (P:=P) ⟨hx.1,hx.2⟩).1;have h63': ¬(9223372036854775807<((n+m:Nat):Int)):=by simp only [maxLen] at h63;omega
  have hfit:Builtin.nextslicecap (n+m) cap*bytes<=281474976710656:=growslice_fits (by omega) hbytes;refine ⟨.slice (some ⟨w.heap.size,0,none⟩) (n+m) (grownCap w (n+m) cap e),w.drew.alloc (.cells (xs.toArray++news.toArray++Builtin.zeroCells z.cells (grownCap w (n+m) cap e-(n+m))) e),?_,?_,?_, .inr ⟨w.heap.size,rfl,Nat.le_refl _⟩⟩
  ·have hfit': ¬(281474976710656<Builtin.nextslicecap (n+m) cap*bytes):=by omega
   have hn1: ¬((n:Int)+m>9223372036854775807):=by simp only [maxLen] at h63;omega
   simp [Builtin.append_,run_underlying ht,run_underlying ht',sizeOf,typeInfo,hi,hln,hsize,hby,hroom,hfit',hold,hfc',zeroValue,hz,IntKind.max,IntKind.signed,IntKind.bits,hn1,Question.forced,newRow]
   refine ⟨rfl,?_⟩;have hta:(xs++news).toArray=xs.toArray++news.toArray:=by simp
   rw [hta,Array.append_assoc];rfl
  ·refine Own.made w.drew e sz _ (n+m) (grownCap w (n+m) cap e) hge hcm' ?_ ?_
   ·simp only [Array.size_append,List.size_toArray,size_zeroCells,hzs,hl,hnl,<-Nat.add_mul];exact Nat.mul_le_mul_right _ (by omega)
   ·simp only [Array.toList_append,List.append_assoc];rw [<-List.append_assoc,show (n+m)*sz=(xs++news).length from by rw [List.length_append,hl,hnl,Nat.add_mul]];exact List.take_left
  ·exact ((Kp.refl _ w).drew).alloc _
theorem wpList_append_run {ops:Array Oper} {rest:List Oper} {o:Oper} {a:Act} {Q:Exit->Act->World->Prop} {w':World} {s x:Operand} {t t':TypeId} {v xv v':Value} (hgd:o.guard=none)
  (ho:o.op= .call {callee:= .builtin .append,args:= #[s,x],argTypes:= #[t,t']}) (hs:a.eval s=v) (hx:a.eval x=xv)
  (hrun:(Builtin.append_ #[t,t'] o.type #[v,xv]).run P w= .ok v' w') (h:wpList P ops Q rest (a.put o.dst v') w'):wpList P ops Q (o::rest) a w:=
 wpList_plain hgd λ_ hK=>by
  unfold Oper.wp execOp;simp only [ho,resolve,invoke,builtin,Sem.run_bind,Sem.run_pure,Result.andThen_ok,List.map_toArray,List.map_cons,List.map_nil,hs,hx,hrun];exact hK _ _ h
end
theorem zA {P:Program} {ops:Array Oper} {ks:List Nat} {S:World->Prop} {Q:Exit->Act->World->Prop} {i:Nat} {o:Oper} {rest:List Nat} {a:Act} {w:World} {A:Act} (h:J1 P ops ks S Q rest A w) (ho:ops[i]?=some o:=by rfl) (hk:ks.getD i 2<2:=by decide) (hg:Region.wanted o (yielded ops a.tmps)=false:=by rfl) (hA:a.put o.dst undef=A:=by go_simp;rfl):J1 P ops ks S Q (i::rest) a w:=Q96 ho hk hg hA h
theorem zB {P:Program} {ops:Array Oper} {ks:List Nat} {S:World->Prop} {Q:Exit->Act->World->Prop} {i:Nat} {o:Oper} {rest:List Nat} {a:Act} {w:World} {A:Act} {v:Value} (h:J1 P ops ks S Q rest A w) (ho:ops[i]?=some o:=by rfl) (hk:ks.getD i 2=0:=by rfl) (hg:Region.wanted o (yielded ops a.tmps)=true:=by rfl) (hv: ∀w0:World,S w0->(execOp a.eval o).run P w0= .ok (.value v) w0:=by intro _ _;go_simp;(try go_ints);rfl) (hA:a.put o.dst v=A:=by go_simp;rfl):J1 P ops ks S Q (i::rest) a w:=Q8 ho hk hg hv hA h
theorem zC {P:Program} {ops:Array Oper} {ks:List Nat} {S:World->Prop} {Q:Exit->Act->World->Prop} {i:Nat} {o:Oper} {rest:List Nat} {a:Act} {w:World} {A:Act} {v:Value} (h:J1 P ops ks S Q rest A w) (ho:ops[i]?=some o:=by rfl) (hk:ks.getD i 2=1:=by rfl) (hg:Region.wanted o (yielded ops a.tmps)=true:=by rfl) (hv: ∀n,(execOp a.eval o).run P (w.drewN n)= .ok (.value v) (w.drewN n):=by intro _;go_simp;(try go_ints);rfl) (hA:a.put o.dst v=A:=by go_simp;rfl):J1 P ops ks S Q (i::rest) a w:=Q95 ho hk hg hv hA h
theorem zD {P:Program} {Q:Exit->Act->World->Prop} {id:Nat} {a:Act} {w:World} {l:List Oper} (F:Nat->Prop) (ks ord:List Nat) (h:J1 P l.toArray ks (Kp F w) Q ord a w) (hm:P.follows .mixedOrders=true:=by kernel_rfl) (hB:Qhp l.toArray ks ord=true:=by kernel_rfl):(Code.region id l.toArray true).wp P Q a w:=Yq (Kp F w) ks ord hm hB (λ_ n h=>h.drewN n) (Kp.refl _ _) h
theorem zE {P:Program} {Q:Exit->Act->World->Prop} {id:Nat} {a:Act} {w:World} {l:List Oper} (ks ord:List Nat) (h:J1 P l.toArray ks (λ_=>True) Q ord a w) (hm:P.follows .mixedOrders=true:=by kernel_rfl) (hB:Qhp l.toArray ks ord=true:=by kernel_rfl):(Code.region id l.toArray true).wp P Q a w:=Q0n ks ord hm hB h
theorem zK {S:Nat->Prop} {w:World}:Kp S w w:=Kp.refl S w
end Go.Mer
namespace Go.Proofs.YtgnkmjeoaoongaaGreatDoor
open Go.RowKit Go.Mer
structure Ek where
 data:List UInt8
 lasts:Nat
abbrev Jo:=List (ByteArray×Ek)
structure Qu where
 room:Nat
 Zg:Option Nat
 files:Jo
def Jl (l:List (ByteArray×Ek)):Nat:=(l.map λp=>p.2.data.length).sum
def Jh (s:ByteArray):Bool:=decide (1<=s.size)&&decide (s.size<=64)
structure Yj where
 blk:Nat
 v:Value
 data:List UInt8
 lasts:Nat
abbrev Zu:=List (ByteArray×Yj)
def Yj.abs (c:Yj):Ek:=⟨c.data,c.lasts⟩
def Yj.ptr (c:Yj):Value:= .pointer (some ⟨c.blk,0,none⟩)
def Zk (L:Zu):Jo:=L.map λp=>(p.1,p.2.abs)
def Dl (L:Zu):List (ByteArray×Value):=L.map λp=>(p.1,p.2.ptr)
def N6 (w:World) (c:Yj):Prop:=
 w.heap[c.blk]?=some (.cells #[c.v, .int .i64 (c.lasts:Int)] 164 (0,0))/\Own w 5 1 c.v c.data.length (u8s c.data)/\c.lasts<=c.data.length
structure Z1 (w:World) (d m room:Nat) (fused:Bool) (left:Int) (L:Zu):Prop where
 cell:w.heap[d]?=some (.cells #[.int .i64 (room:Int), .map (some m), .bool fused, .int .i64 left] 161 (0,0))
 map:Vi Value.string w m (Dl L)
 files: ∀p∈L,N6 w p.2
 C0:(L.map (·.2.blk)).Nodup
 rows:(L.filterMap (·.2.v.ownBlock)).Nodup
 fits:Jl (Zk L)<=room
 roomy:room<=1073741824
 few:L.length<=4096
 left0:0<=left
 Mq:left<=9223372036854775807
def FP (d m:Nat) (L:Zu):Nat->Prop:=λk=>k=d\/k=m\/ ∃p∈L,k=p.2.blk\/p.2.v.ownBlock=some k
def B3 (fused:Bool) (left:Int):Option Nat:=if fused then some left.toNat else none
def Zd (w:World) (d:Nat) (s:Qu) (F:Nat->Prop):Prop:=
 ∃m fused left L,Z1 w d m s.room fused left L/\s.Zg=B3 fused left/\s.files=Zk L/\(∀k,FP d m L k->F k)/\ ∀k,F k->k<w.heap.size
section
variable {w w':World} {d m room:Nat} {fused:Bool} {left:Int} {L:Zu}
theorem N6.keep {S:Nat->Prop} {c:Yj} (h:N6 w c) (hk:Kp S w w') (h1: ¬S c.blk) (h2: ∀g,c.v.ownBlock=some g-> ¬S g):N6 w' c:=
 ⟨hk.get h.1 h1,h.2.1.keep hk h2,h.2.2⟩
theorem Z1.keep {S:Nat->Prop} (h:Z1 w d m room fused left L) (hk:Kp S w w') (hS: ∀k,FP d m L k-> ¬S k):Z1 w' d m room fused left L:=
 {h with
  cell:=hk.get h.cell (hS d (.inl rfl))
  map:=h.map.of_heap (hk.block m h.map.lt (hS m (.inr (.inl rfl))))
  files:=λp hp=>(h.files p hp).keep hk (hS _ (.inr (.inr ⟨p,hp, .inl rfl⟩))) λg hg=>hS g (.inr (.inr ⟨p,hp, .inr hg⟩))}
theorem Z1.Q5 (h:Z1 w d m room fused left L) (hk:Kp No w w'):Z1 w' d m room fused left L:=h.keep hk λ_ _ x=>x
theorem Z1.lt (h:Z1 w d m room fused left L): ∀k,FP d m L k->k<w.heap.size:=by
 rintro k (rfl|rfl|⟨p,hp,rfl|hk⟩)
 ·exact Q3 h.cell
 ·exact h.map.lt
 ·exact Q3 (h.files p hp).1
 ·exact (h.files p hp).2.1.lt k hk
theorem Qc3 (L:Zu):(Dl L).map (·.1)=L.map (·.1):=Gp _ L
theorem Dc (L:Zu):(Zk L).map (·.1)=L.map (·.1):=Gp _ L
theorem Z1.keys (h:Z1 w d m room fused left L):(L.map (·.1)).Nodup:=by have:=h.map.nodup;rwa [Qc3] at this
theorem Zd.keep {S F:Nat->Prop} {s:Qu} (h:Zd w d s F) (hk:Kp S w w') (hS: ∀k,F k-> ¬S k):Zd w' d s F:=by
 obtain ⟨m,fused,left,L,h1,h2,h3,h4,h5⟩:=h;exact ⟨m,fused,left,L,h1.keep hk (λk hf=>hS k (h4 k hf)),h2,h3,h4,λk hf=>hk.lt (h5 k hf)⟩
theorem Zd.Q5 {F:Nat->Prop} {s:Qu} (h:Zd w d s F) (hk:Kp No w w'):Zd w' d s F:=h.keep hk λ_ _ x=>x
theorem Z1.Qmo (h:Z1 w d m room fused left L) (Qfq:Bool) (left':Int) (h0:0<=left') (h1:left'<=9223372036854775807) (hk:Kp (One d) w w')
  (hc:w'.heap[d]?=some (.cells #[.int .i64 (room:Int), .map (some m), .bool Qfq, .int .i64 left'] 161 (0,0))):Z1 w' d m room Qfq left' L:=
 have hne: ∀k,FP d m L k->k≠d-> ¬One d k:=λ_ _ h1 h2=>h1 h2
 have hmd:m≠d:=λe=>by
  obtain ⟨es,c,hm,_⟩:=h.map;subst e;rw [h.cell] at hm;cases hm
 {h with
  cell:=hc
  map:=h.map.of_heap (hk.block m h.map.lt hmd)
  files:=λp hp=>(h.files p hp).keep hk (λe=>Q7 (h.files p hp).1 h.cell (by decide) e) λg hg e=>by
   obtain ⟨cur,hcur⟩:=(h.files p hp).2.1.type g hg;exact Q7 hcur h.cell (by decide) e
  left0:=h0
  Mq:=h1}
end
def Q0m (l:Jo) (V:List ByteArray):Nat:=Jl (l.filter λp=>decide (p.1∈V))
def Ot {β:Type} (l:List (ByteArray×β)) (V:List ByteArray):Nat:=(l.filter λp=>decide (p.1∉V)).length
theorem Qie:Jl []=0:=rfl
theorem E1 (p:ByteArray×Ek) (l:Jo):Jl (p::l)=p.2.data.length+Jl l:=by simp [Jl]
theorem Vd (l k:Jo):Jl (l++k)=Jl l+Jl k:=by simp [Jl]
theorem Qig (l:Jo):Q0m l []=0:=by
 unfold Q0m;rw [List.filter_eq_nil_iff.2 (by simp)];rfl
theorem Eo {β:Type} {l:List (ByteArray×β)} (hn:(l.map (·.1)).Nodup) {p:ByteArray×β} (hp:p∈l) {V:List ByteArray} (hV:p.1∉V):
  (l.filter λq=>decide (q.1∈p.1::V)).Perm (p::l.filter λq=>decide (q.1∈V))/\Ot l V=Ot l (p.1::V)+1:=by
 induction l with
 |nil=>cases hp
 |cons q l ih=>
  simp only [List.map_cons,List.nodup_cons] at hn;rcases List.mem_cons.1 hp with rfl|hp'
  ·have e1:(l.filter λq=>decide (q.1∈p.1::V))=l.filter λq=>decide (q.1∈V):=by
    apply List.filter_congr
    intro x hx;have:x.1≠p.1:=λe=>hn.1 (e▸List.mem_map.2 ⟨x,hx,rfl⟩);simp [this]
   have e2:(l.filter λq=>decide (q.1∉p.1::V))=l.filter λq=>decide (q.1∉V):=by
    apply List.filter_congr
    intro x hx;have:x.1≠p.1:=λe=>hn.1 (e▸List.mem_map.2 ⟨x,hx,rfl⟩);simp [this]
   unfold Ot;rw [List.filter_cons,List.filter_cons,List.filter_cons,List.filter_cons,e1,e2];simp [hV]
  ·have Qwo:q.1≠p.1:=λe=>hn.1 (e▸List.mem_map.2 ⟨p,hp',rfl⟩);obtain ⟨i1,i2⟩:=ih hn.2 hp';unfold Ot at i2⊢;by_cases hq:q.1∈V
   ·constructor
    ·have ea:decide (q.1∈p.1::V)=true:=by simp [hq]
     have eb:decide (q.1∈V)=true:=by simp [hq]
     rw [List.filter_cons,List.filter_cons,ea,eb,if_pos rfl,if_pos rfl];exact (i1.cons q).trans (List.Perm.swap _ _ _)
    ·have ea:decide (q.1∉p.1::V)=false:=by simp [hq]
     have eb:decide (q.1∉V)=false:=by simp [hq]
     rw [List.filter_cons,List.filter_cons,ea,eb];simpa using i2
   ·constructor
    ·have ea:decide (q.1∈p.1::V)=false:=by simp [hq,Qwo]
     have eb:decide (q.1∈V)=false:=by simp [hq]
     rw [List.filter_cons,List.filter_cons,ea,eb];simpa using i1
    ·have ea:decide (q.1∉p.1::V)=true:=by simp [hq,Qwo]
     have eb:decide (q.1∉V)=true:=by simp [hq]
     rw [List.filter_cons,List.filter_cons,ea,eb,if_pos rfl,if_pos rfl,List.length_cons,List.length_cons,i2]
theorem Q1p {l k:Jo} (h:l.Perm k):Jl l=Jl k:=by
 unfold Jl;exact (h.map _).sum_nat
theorem Qcx {l:Jo} (hn:(l.map (·.1)).Nodup) {p:ByteArray×Ek} (hp:p∈l) {V:List ByteArray} (hV:p.1∉V):Q0m l (p.1::V)=Q0m l V+p.2.data.length:=by
 unfold Q0m;rw [Q1p (Eo hn hp hV).1,E1];omega
theorem Q6d (l:Jo) (f:ByteArray×Ek->Bool):Jl (l.filter f)<=Jl l:=by
 induction l with
 |nil=>simp
 |cons p l ih=>
  rw [List.filter_cons];split<;>simp only [E1]<;>omega
theorem Qas (l:Jo) (V:List ByteArray):Q0m l V<=Jl l:=Q6d _ _
theorem Qif {l:Jo} {V:List ByteArray} (h: ∀p∈l,p.1∈V):Q0m l V=Jl l:=by
 unfold Q0m;rw [List.filter_eq_self.2 (by simpa using h)]
theorem Q2w {l:Jo} {p:ByteArray×Ek} (h:p∈l):p.2.data.length<=Jl l:=by
 induction l with
 |nil=>cases h
 |cons q l ih=>
  rw [E1];rcases List.mem_cons.1 h with rfl|h
  ·omega
  ·have:=ih h;omega
theorem Q1o {l:Jo} (hn:(l.map (·.1)).Nodup) {k:ByteArray} {x y:Ek} (h:Qo l k=some x):Jl (Qt l k y)+x.data.length=Jl l+y.data.length:=by
 obtain ⟨l1,l2,rfl,_⟩:=V3 h;rw [Xb hn];simp only [Vd,E1];omega
theorem Q0l {l:Jo} {k:ByteArray} {y:Ek} (h:Qo l k=none):Jl (Qt l k y)=Jl l+y.data.length:=by
 rw [Oa (Zw.1 h),Vd,E1,Qie];rfl
theorem Vn (L:Zu) (k:ByteArray):Qo (Zk L) k=(Qo L k).map Yj.abs:=Gh _ L k
theorem Gj (L:Zu) (k:ByteArray) (c:Yj):Zk (Qt L k c)=Qt (Zk L) k c.abs:=D8 _ L k c
section
variable {w w':World} {d m room:Nat} {fused:Bool} {left:Int} {L l1 l2:Zu} {name:ByteArray} {c c':Yj}
theorem Z1.Qan (h:Z1 w d m room fused left L) (hc:Qo L name=some c) (hblk:c'.blk=c.blk) (hk:Kp (λk=>k=c.blk\/c.v.ownBlock=some k) w w') (hok:N6 w' c')
  (hrow:c'.v.ownBlock=c.v.ownBlock\/ ∃g,c'.v.ownBlock=some g/\w.heap.size<=g) (hfit:Jl (Zk (Qt L name c'))<=room):
  Z1 w' d m room fused left (Qt L name c')/\Qv (FP d m L) (FP d m (Qt L name c')) w/\Kp (FP d m L) w w':=by
 have hkeys:=h.keys;have hcf:=h.files _ (Qw hc);have hmem:=Qw hc;obtain ⟨l1,l2,rfl,hn1⟩:=V3 hc;rw [Xb hkeys] at hfit⊢;have hb:=h.C0;have hr:=h.rows;simp only [List.map_append,List.map_cons] at hb;simp only [List.filterMap_append] at hr;have Qga: ∀g,c.v.ownBlock=some g-> ∃cur,w.heap[g]?=some (.cells cur 5 (0,0)):=λg hg=>hcf.2.1.type g hg;obtain ⟨es,ck,hm,_⟩:=h.map
 have hother: ∀p,p∈l1\/p∈l2->N6 w' p.2:=λp hp=>by
  have hp':p∈l1++(name,c)::l2:=by rcases hp with hp|hp<;>simp [hp]
  have J1q:=h.files p hp';refine J1q.keep hk (λhS=>?_) λg hg hS=>?_
  ·rcases hS with hS|hS
   ·rw [List.nodup_append] at hb;rcases hp with hp|hp
    ·exact hb.2.2 _ (List.mem_map.2 ⟨p,hp,rfl⟩) _ (List.mem_cons_self ..) hS
    ·have:=(List.nodup_cons.1 hb.2.1).1;exact this (List.mem_map.2 ⟨p,hp,hS⟩)
   ·obtain ⟨cur,hcur⟩:=Qga _ hS;exact Q7 J1q.1 hcur (by decide) rfl
  ·rcases hS with hS|hS
   ·obtain ⟨cur,hcur⟩:=J1q.2.1.type g hg;exact Q7 hcur hcf.1 (by decide) hS
   ·rw [List.filterMap_cons,hS] at hr;rw [List.nodup_append] at hr;rcases hp with hp|hp
    ·exact hr.2.2 _ (List.mem_filterMap.2 ⟨p,hp,hg⟩) _ (List.mem_cons_self ..) rfl
    ·exact (List.nodup_cons.1 hr.2.1).1 (List.mem_filterMap.2 ⟨p,hp,hg⟩)
 refine ⟨{h with cell:=?_,map:=?_,files:=?_,C0:=?_,rows:=?_,fits:=hfit,few:=?_},?_,hk.mono λk _ hk=>?_⟩
 ·refine hk.get h.cell λhS=>?_;rcases hS with hS|hS
  ·exact Q7 h.cell hcf.1 (by decide) hS
  ·obtain ⟨cur,hcur⟩:=Qga _ hS;exact Q7 h.cell hcur (by decide) rfl
 ·have e:Dl (l1++(name,c')::l2)=Dl (l1++(name,c)::l2):=by simp [Dl,Yj.ptr,hblk]
  rw [e];refine h.map.of_heap (hk.block m h.map.lt λhS=>?_);rcases hS with hS|hS
  ·rw [hS,hcf.1] at hm;cases hm
  ·obtain ⟨cur,hcur⟩:=Qga _ hS;rw [hcur] at hm;cases hm
 ·intro p hp;rcases List.mem_append.1 hp with hp|hp
  ·exact hother p (.inl hp)
  ·rcases List.mem_cons.1 hp with rfl|hp
   ·exact hok
   ·exact hother p (.inr hp)
 ·simpa [hblk] using h.C0
 ·rcases hrow with hrow|⟨g,hg,hgs⟩
  ·have:=h.rows;simp only [List.filterMap_append,List.filterMap_cons] at this⊢;rw [hrow];exact this
  ·have hlt: ∀p∈l1++(name,c)::l2,∀k,p.2.v.ownBlock=some k->k≠g:=λp hp k hk e=>by
    have:=(h.files p hp).2.1.lt k hk;omega
   simp only [List.filterMap_append,List.filterMap_cons,hg] at hr⊢;rw [List.nodup_append] at hr⊢
   have hr2:(l2.filterMap (·.2.v.ownBlock)).Nodup:=by
    rcases hv:c.v.ownBlock with _|k
    ·have:=hr.2.1;simpa only [hv] using this
    ·have:=hr.2.1;simp only [hv] at this;exact (List.nodup_cons.1 this).2
   refine ⟨hr.1,List.nodup_cons.2 ⟨λhm=>?_,hr2⟩,λa ha b hb' e=>?_⟩
   ·obtain ⟨p,hp,Qr5⟩:=List.mem_filterMap.1 hm;exact hlt p (by simp [hp]) _ Qr5 rfl
   ·subst e;rcases List.mem_cons.1 hb' with rfl|hb'
    ·obtain ⟨p,hp,Qr5⟩:=List.mem_filterMap.1 ha;exact hlt p (by simp [hp]) _ Qr5 rfl
    ·refine hr.2.2 a ha a ?_ rfl;rcases hv:c.v.ownBlock with _|k
     ·exact hb'
     ·exact List.mem_cons_of_mem _ hb'
 ·simpa using h.few
 ·rintro k (rfl|rfl|⟨p,hp,hpk⟩)
  ·exact .inl (.inl rfl)
  ·exact .inl (.inr (.inl rfl))
  ·rcases List.mem_append.1 hp with hp|hp
   ·exact .inl (.inr (.inr ⟨p,by simp [hp],hpk⟩))
   ·rcases List.mem_cons.1 hp with rfl|hp
    ·rcases hpk with hpk|hpk
     ·exact .inl (.inr (.inr ⟨_,hmem, .inl (hpk.trans hblk)⟩))
     ·rcases hrow with hrow|⟨g,hg,hgs⟩
      ·exact .inl (.inr (.inr ⟨_,hmem, .inr (hrow▸hpk)⟩))
      ·right
       have:some k=some g:=hpk.symm.trans hg;injection this with this;omega
    ·exact .inl (.inr (.inr ⟨p,by simp [hp],hpk⟩))
 ·exact .inr (.inr ⟨_,hmem,hk⟩)
theorem Z1.Qk9 (h:Z1 w d m room fused left L) (hc:Qo L name=none) (hk:Kp (One m) w w') (hm':Vi Value.string w' m (Qt (Dl L) name c'.ptr)) (hok:N6 w' c')
  (hblk:w.heap.size<=c'.blk) (hrow: ∀g,c'.v.ownBlock=some g->w.heap.size<=g) (hfit:Jl (Zk (Qt L name c'))<=room) (hfew:L.length<4096):
  Z1 w' d m room fused left (Qt L name c')/\Qv (FP d m L) (FP d m (Qt L name c')) w/\Kp (FP d m L) w w':=by
 have hnk:=Zw.1 hc;have hmap:Dl (Qt L name c')=Qt (Dl L) name c'.ptr:=D8 _ L name c';rw [<-hmap] at hm';rw [Oa hnk] at hfit hm'⊢;obtain ⟨es,ck,hm,_⟩:=h.map;refine ⟨{h with cell:=?_,map:=hm',files:=?_,C0:=?_,rows:=?_,fits:=hfit,few:=?_},?_,hk.mono λk _ hk=> .inr (.inl hk)⟩
 ·exact hk.get h.cell λhS=>by
   have hS:d=m:=hS;have hc:=h.cell;rw [hS,hm] at hc;cases hc
 ·intro p hp;rcases List.mem_append.1 hp with hp|hp
  ·refine (h.files p hp).keep hk (λhS=>?_) λg hg hS=>?_
   ·have hf:=(h.files p hp).1;rw [show p.2.blk=m from hS,hm] at hf;cases hf
   ·obtain ⟨cur,hcur⟩:=(h.files p hp).2.1.type g hg;rw [show g=m from hS,hm] at hcur;cases hcur
  ·simp only [List.mem_singleton] at hp;subst hp;exact hok
 ·rw [List.map_append,List.nodup_append];refine ⟨h.C0,by simp,λa ha b hb e=>?_⟩;simp only [List.map_cons,List.map_nil,List.mem_singleton] at hb;obtain ⟨p,hp,rfl⟩:=List.mem_map.1 ha;have:=Q3 (h.files p hp).1;omega
 ·rw [List.filterMap_append,List.nodup_append];refine ⟨h.rows,?_,λa ha b hb e=>?_⟩
  ·cases hv:c'.v.ownBlock<;>simp [hv]
  ·obtain ⟨p,hp,hpa⟩:=List.mem_filterMap.1 ha;obtain ⟨q,hq,Qle⟩:=List.mem_filterMap.1 hb;simp only [List.mem_singleton] at hq;subst hq;have:=(h.files p hp).2.1.lt a hpa;have:=hrow b Qle;omega
 ·rw [List.length_append];simp
  omega
 ·rintro k (rfl|rfl|⟨p,hp,hpk⟩)
  ·exact .inl (.inl rfl)
  ·exact .inl (.inr (.inl rfl))
  ·rcases List.mem_append.1 hp with hp|hp
   ·exact .inl (.inr (.inr ⟨p,hp,hpk⟩))
   ·simp only [List.mem_singleton] at hp;subst hp;right
    rcases hpk with rfl|hpk
    ·exact hblk
    ·exact hrow k hpk
end
theorem kindStr:Tryz.prog.underlying 9=some .string:=Tryz.underlying9
theorem An (k:ByteArray):MapKept.IsKey .string (Value.string k):=trivial
theorem Am (a b:ByteArray) (h:Value.string a=Value.string b):a=b:=by injection h
theorem Qnc (w:World):(zeroValue 162).run Tryz.prog w= .ok (.pointer none) w:=by kernel_rfl
theorem infoByte:(Tryz.prog.info? 5).map (λi=>(i.zero,i.size,i.bytes))=some (some (.int .u8 0),1,1):=by kernel_rfl
theorem Q1d {w:World} {m:Nat} {l:List (ByteArray×Value)} (h:Vi Value.string w m l) (k:ByteArray):
  (Instr.lookup 159 (.map (some m)) (.string k) false).run Tryz.prog w= .ok ((Qo l k).getD (.pointer none)) w:=
 (Mx Tryz.underlying159 kindStr An Am Qnc h k).1
end Go.Proofs.YtgnkmjeoaoongaaGreatDoor
