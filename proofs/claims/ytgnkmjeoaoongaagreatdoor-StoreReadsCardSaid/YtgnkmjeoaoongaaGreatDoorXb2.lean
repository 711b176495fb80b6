/-
  WLogM, WEnds, WSyncs.
-/
import Derived.Test.YtgnkmjeoaoongaaGreatDoorXa9
import Derived.Test.YtgnkmjeoaoongaaGreatDoorXa6
import Derived.Test.YtgnkmjeoaoongaaGreatDoorXb0
set_option maxRecDepth 100000
set_option maxHeartbeats 4000000
namespace Go.Proofs.YtgnkmjeoaoongaaGreatDoor
open Go.RowKit Go.Mer
theorem Pow.lt {w:World} (h:Pow w):0<w.heap.size:=by
 unfold Pow Lib.TabIs World.var? at h;rw [Qpu] at h;simp only [Option.bind_some] at h;cases hg:w.heap[0]? with
 |none=>rw [hg] at h;simp at h
 |some o=>exact Q3 hg
def Ah (P:ByteArray) (z:Nat×Nat):List Value:=[.string (Eh P z.1), .int .i64 (z.2:Int)]
theorem Q66 (P:ByteArray) (z:Nat×Nat):(Ah P z).length=2:=rfl
theorem Qi7 (P:ByteArray) (z:Nat×Nat): ∀u∈Ah P z,u.oneCell'=true:=by
 intro u hu;simp only [Ah,List.mem_cons,List.not_mem_nil,or_false] at hu;rcases hu with rfl|rfl<;>rfl
def Mw (r:Row):List Value:=[r.val]
theorem Q63 (r:Row): ∀u∈Mw r,u.oneCell'=true:=by
 intro u hu;simp only [Mw,List.mem_cons,List.not_mem_nil,or_false] at hu;subst hu;rfl
def O0 (w:World) (r:Row):Prop:=Own w 5 1 r.val r.data.length (u8s r.data)/\r.data.length<=r.cap/\r.data.length<=1000000000
theorem Qlk:(Tryz.prog.info? 243).map (λi=>((i.zero.map λz=>z.cells.size),i.size,i.bytes))=some (some 2,2,24):=by kernel_rfl
theorem Q50:(Tryz.prog.info? 42).map (λi=>((i.zero.map λz=>z.cells.size),i.size,i.bytes))=some (some 1,1,24):=by kernel_rfl
structure Vx (w:World) (l d:Nat) (P:ByteArray) (sv ev:Value) (S:List (Nat×Nat)) (E:List Row) (synced:Nat) (dead:Bool):Prop where
 cell:w.heap[l]?=some (.cells #[.pointer (some ⟨d,0,none⟩), .string P,sv,ev, .int .i64 (synced:Int), .bool dead] 241 (0,0))
 Qk:Own w 243 2 sv S.length (S.flatMap (Ah P))
 Qn:Own w 42 1 ev E.length (E.flatMap Mw)
 each: ∀r∈E,O0 w r
def Qje (l:Nat) (sv ev:Value) (E:List Row):Nat->Prop:=λk=>k=l\/sv.ownBlock=some k\/ev.ownBlock=some k\/ ∃r∈E,r.val.ownBlock=some k
def Em (w:World) (l d:Nat) (P:ByteArray) (st:J2) (G:Nat->Prop):Prop:=
 ∃sv ev E,Vx w l d P sv ev st.Qk E st.synced st.dead/\st.Qn=E.map Row.data/\(∀k,Qje l sv ev E k->G k)/\ ∀k,G k->k<w.heap.size
section
variable {w w' W W':World} {l d:Nat} {P:ByteArray} {sv ev sv' ev':Value} {S S':List (Nat×Nat)} {E E':List Row} {synced Zt:Nat} {dead Uj:Bool} {G:Nat->Prop} {r:Row}
theorem O0.keep {T:Nat->Prop} (h:O0 w r) (hk:Kp T w w') (hT: ∀g,r.val.ownBlock=some g-> ¬T g):O0 w' r:=⟨h.1.keep hk hT,h.2⟩
theorem Vx.keep {T:Nat->Prop} (h:Vx w l d P sv ev S E synced dead) (hk:Kp T w w') (hT: ∀k,Qje l sv ev E k-> ¬T k):Vx w' l d P sv ev S E synced dead:=
 ⟨hk.get h.cell (hT l (.inl rfl)),h.Qk.keep hk λg hg=>hT g (.inr (.inl hg)),h.Qn.keep hk λg hg=>hT g (.inr (.inr (.inl hg))),λr hr=>(h.each r hr).keep hk λg hg=>hT g (.inr (.inr (.inr ⟨r,hr,hg⟩)))⟩
theorem Vx.Q5 (h:Vx w l d P sv ev S E synced dead) (hk:Kp No w w'):Vx w' l d P sv ev S E synced dead:=h.keep hk λ_ _ x=>x
theorem Vx.lt (h:Vx w l d P sv ev S E synced dead): ∀k,Qje l sv ev E k->k<w.heap.size:=by
 rintro k (rfl|hk|hk|⟨r,hr,hk⟩)
 ·exact Q3 h.cell
 ·exact h.Qk.lt k hk
 ·exact h.Qn.lt k hk
 ·exact (h.each r hr).1.lt k hk
theorem Em.keep {T:Nat->Prop} {st:J2} (h:Em w l d P st G) (hk:Kp T w w') (hT: ∀k,G k-> ¬T k):Em w' l d P st G:=by
 obtain ⟨sv,ev,E,h1,h2,h3,h4⟩:=h;exact ⟨sv,ev,E,h1.keep hk (λk hf=>hT k (h3 k hf)),h2,h3,λk hf=>hk.lt (h4 k hf)⟩
theorem Em.Q5 {st:J2} (h:Em w l d P st G) (hk:Kp No w w'):Em w' l d P st G:=h.keep hk λ_ _ x=>x
theorem Vx.Yv (h:Vx w l d P sv ev S E synced dead) {g:Nat} (hg:sv.ownBlock=some g):g≠l/\ev.ownBlock≠some g/\ ∀r∈E,r.val.ownBlock≠some g:=by
 obtain ⟨cur,hc⟩:=h.Qk.type g hg;refine ⟨Q7 hc h.cell (by decide),λe=>?_,λr hr e=>?_⟩
 ·obtain ⟨cur',hc'⟩:=h.Qn.type g e;exact Q7 hc hc' (by decide) rfl
 ·obtain ⟨cur',hc'⟩:=(h.each r hr).1.type g e;exact Q7 hc hc' (by decide) rfl
theorem Vx.Xs (h:Vx w l d P sv ev S E synced dead) {g:Nat} (hg:ev.ownBlock=some g):g≠l/\sv.ownBlock≠some g/\ ∀r∈E,r.val.ownBlock≠some g:=by
 obtain ⟨cur,hc⟩:=h.Qn.type g hg;refine ⟨Q7 hc h.cell (by decide),λe=>?_,λr hr e=>?_⟩
 ·obtain ⟨cur',hc'⟩:=h.Qk.type g e;exact Q7 hc hc' (by decide) rfl
 ·obtain ⟨cur',hc'⟩:=(h.each r hr).1.type g e;exact Q7 hc hc' (by decide) rfl
theorem Vx.row_ne (h:Vx w l d P sv ev S E synced dead) (hr:r∈E) {g:Nat} (hg:r.val.ownBlock=some g):g≠l:=by
 obtain ⟨cur,hc⟩:=(h.each r hr).1.type g hg;exact Q7 hc h.cell (by decide)
theorem Vx.turn (h:Vx w l d P sv ev S E synced dead) (hk:Kp (One l) w w') (hc:w'.heap[l]?=some (.cells #[.pointer (some ⟨d,0,none⟩), .string P,sv,ev, .int .i64 (Zt:Int), .bool Uj] 241 (0,0))):Vx w' l d P sv ev S E Zt Uj:=
 ⟨hc,h.Qk.keep hk λg hg (e:g=l)=>(h.Yv hg).1 e,h.Qn.keep hk λg hg (e:g=l)=>(h.Xs hg).1 e,λr hr=>(h.each r hr).keep hk λg hg (e:g=l)=>h.row_ne hr hg e⟩
structure V1 (w W:World) (l d:Nat) (P:ByteArray) (sv ev:Value) (S:List (Nat×Nat)) (E:List Row) (synced:Nat) (dead:Bool) (G:Nat->Prop):Prop where
 c:Vx W l d P sv ev S E synced dead
 foot: ∀k,Qje l sv ev E k->G k\/w.heap.size<=k
 kp:Kp G w W
theorem V1.start {st:J2} (h:Em w l d P st G): ∃sv ev E,V1 w w l d P sv ev st.Qk E st.synced st.dead G/\st.Qn=E.map Row.data/\ ∀k,G k->k<w.heap.size:=by
 obtain ⟨sv,ev,E,h1,h2,h3,h4⟩:=h;exact ⟨sv,ev,E,⟨h1,λk hk=> .inl (h3 k hk),Kp.refl _ _⟩,h2,h4⟩
theorem V1.stop (h:V1 w W l d P sv ev S E synced dead G): ∃G',Em W l d P ⟨E.map Row.data,S,synced,dead⟩ G'/\Qv G G' w/\Kp G w W:=
 ⟨Qje l sv ev E,⟨sv,ev,E,h.c,rfl,λ_ x=>x,h.c.lt⟩,h.foot,h.kp⟩
theorem V1.step {T:Nat->Prop} (h:V1 w W l d P sv ev S E synced dead G) (hk:Kp T W W') (hT: ∀k,T k->Qje l sv ev E k\/W.heap.size<=k) (hc:Vx W' l d P sv' ev' S' E' Zt Uj) (hf: ∀k,Qje l sv' ev' E' k->Qje l sv ev E k\/W.heap.size<=k):
  V1 w W' l d P sv' ev' S' E' Zt Uj G:=by
 have hsz:=h.kp.size;refine ⟨hc,λk hk'=>?_,h.kp.trans hk λi hi hs=>?_⟩
 ·rcases hf k hk' with h1|h1
  ·exact h.foot k h1
  ·exact .inr (Nat.le_trans hsz h1)
 ·rcases hT i hs with h1|h1
  ·rcases h.foot i h1 with h2|h2
   ·exact h2
   ·omega
  ·omega
theorem V1.no (h:V1 w W l d P sv ev S E synced dead G) (hk:Kp No W W'):V1 w W' l d P sv ev S E synced dead G:=h.step hk (λ_ x=>x.elim) (h.c.Q5 hk) λ_ x=> .inl x
theorem V1.J08 (h:V1 w W l d P sv ev S E synced dead G) (hr:O0 W r) (hrf: ∀g,r.val.ownBlock=some g->G g\/w.heap.size<=g) (hk:Kp (λk=>ev.ownBlock=some k) W W') (ho:Own W' 42 1 ev' (E++[r]).length ((E++[r]).flatMap Mw)) (hf:ev'.ownBlock=ev.ownBlock\/ ∃g,ev'.ownBlock=some g/\W.heap.size<=g):
  V1 w (W'.setCell ⟨l,3,none⟩ ev') l d P sv ev' S (E++[r]) synced dead G:=by
 have hc:=h.c;have hcell:=hk.get hc.cell λe=>(hc.Xs e).1 rfl;have hs:Kp (One l) W' (W'.setCell ⟨l,3,none⟩ ev'):=(Kp.refl (One l) _).setCell (p:=⟨l,3,none⟩) (.inl rfl) _;have hll:=Q3 hc.cell
 have hrn: ∀g,r.val.ownBlock=some g->g≠l/\ev.ownBlock≠some g:=λg hg=>by
  obtain ⟨cur,Uu⟩:=hr.1.type g hg;refine ⟨Q7 Uu hc.cell (by decide),λe=>?_⟩;obtain ⟨cur',hc'⟩:=hc.Qn.type g e;exact Q7 Uu hc' (by decide) rfl
 have hall:Kp (λk=>k=l\/ev.ownBlock=some k) W (W'.setCell ⟨l,3,none⟩ ev'):=(hk.mono λ_ _ x=> .inr x).trans hs λi _ (e:i=l)=> .inl e;have hsz:=h.kp.size
 have hE: ∀q∈E++[r],O0 (W'.setCell ⟨l,3,none⟩ ev') q:=λq hq=>by
  rcases List.mem_append.1 hq with hq|hq
  ·refine (hc.each q hq).keep hall λg hg hT=>?_;rcases hT with hT|hT
   ·exact hc.row_ne hq hg hT
   ·exact (hc.Xs hT).2.2 q hq hg
  ·rw [List.mem_singleton] at hq;subst hq;exact hr.keep hall λg hg hT=>hT.elim (hrn g hg).1 (hrn g hg).2
 have hfo: ∀k,Qje l sv ev' (E++[r]) k->G k\/w.heap.size<=k:=by
  rintro k (rfl|hk'|hk'|⟨q,hq,hk'⟩)
  ·exact h.foot _ (.inl rfl)
  ·exact h.foot _ (.inr (.inl hk'))
  ·rcases hf with e|⟨g,e,hg⟩
   ·exact h.foot _ (.inr (.inr (.inl (e▸hk'))))
   ·rw [e] at hk';injection hk' with hk';right;omega
  ·rcases List.mem_append.1 hq with hq|hq
   ·exact h.foot _ (.inr (.inr (.inr ⟨q,hq,hk'⟩)))
   ·rw [List.mem_singleton] at hq;subst hq;exact hrf k hk'
 refine ⟨⟨by have:=Qh hcell 3 ev';simpa using this,hc.Qk.keep hall λg hg hT=>hT.elim (hc.Yv hg).1 (hc.Yv hg).2.1,?_,hE⟩,hfo,h.kp.trans hall λi hi hT=>?_⟩
 ·refine ho.keep hs λg hg (e:g=l)=>?_;rcases hf with e'|⟨g',e',hg'⟩
  ·exact (hc.Xs (e'▸hg)).1 e
  ·rw [e'] at hg;injection hg with hg;omega
 ·rcases hT with rfl|hT
  ·rcases h.foot _ (.inl rfl) with h1|h1
   ·exact h1
   ·omega
  ·rcases h.foot _ (.inr (.inr (.inl hT))) with h1|h1
   ·exact h1
   ·omega
theorem V1.Qym (h:V1 w W l d P sv ev S E synced dead G) (hk:Kp (λk=>sv.ownBlock=some k) W W') (ho:Own W' 243 2 sv' S'.length (S'.flatMap (Ah P))) (hf:sv'.ownBlock=sv.ownBlock\/ ∃g,sv'.ownBlock=some g/\W.heap.size<=g):
  V1 w (W'.setCell ⟨l,2,none⟩ sv') l d P sv' ev S' E synced dead G:=by
 have hc:=h.c;have hcell:=hk.get hc.cell λe=>(hc.Yv e).1 rfl;have hs:Kp (One l) W' (W'.setCell ⟨l,2,none⟩ sv'):=(Kp.refl (One l) _).setCell (p:=⟨l,2,none⟩) (.inl rfl) _;have hll:=Q3 hc.cell;have hall:Kp (λk=>k=l\/sv.ownBlock=some k) W (W'.setCell ⟨l,2,none⟩ sv'):=(hk.mono λ_ _ x=> .inr x).trans hs λi _ (e:i=l)=> .inl e;refine h.step hall (λk hT=>hT.elim (λe=> .inl (.inl e)) λe=> .inl (.inr (.inl e))) ⟨by have:=Qh hcell 2 sv';simpa using this,?_,hc.Qn.keep hall λg hg hT=>hT.elim (hc.Xs hg).1 (hc.Xs hg).2.1,λq hq=>(hc.each q hq).keep hall λg hg hT=>hT.elim (hc.row_ne hq hg) λe=>(hc.Yv e).2.2 q hq hg⟩ ?_
 ·refine ho.keep hs λg hg (e:g=l)=>?_;rcases hf with e'|⟨g',e',hg'⟩
  ·exact (hc.Yv (e'▸hg)).1 e
  ·rw [e'] at hg;injection hg with hg;omega
 ·rintro k (rfl|hk'|hk'|hk')
  ·exact .inl (.inl rfl)
  ·rcases hf with e|⟨g,e,hg⟩
   ·exact .inl (.inr (.inl (e▸hk')))
   ·rw [e] at hk';injection hk' with hk';right;omega
  ·exact .inl (.inr (.inr (.inl hk')))
  ·exact .inl (.inr (.inr (.inr hk')))
theorem V1.flag (h:V1 w W l d P sv ev S E synced dead G) (hk:Kp (One l) W W') (hc:W'.heap[l]?=some (.cells #[.pointer (some ⟨d,0,none⟩), .string P,sv,ev, .int .i64 (Zt:Int), .bool Uj] 241 (0,0))):V1 w W' l d P sv ev S E Zt Uj G:=
 h.step hk (λk (e:k=l)=> .inl (.inl e)) (h.c.turn hk hc) λ_ x=> .inl x
end
theorem Ey {T E sz bytes:Nat} (hT:Tryz.prog.underlying T=some (.slice E)) (hE:(Tryz.prog.info? E).map (λi=>((i.zero.map λz=>z.cells.size),i.size,i.bytes))=some (some sz,sz,bytes)) {V:World} {v:Value} {n:Nat} {xs news:List Value} (ho:Own V E sz v n xs)
  (hone: ∀u∈news,u.oneCell'=true) (hl:news.length=sz) {g:Nat} {cs:Array Value} (hg:V.heap[g]?=some (.cells cs E (0,0))) (hcs:cs.toList=news) (hn:n<=1100000000) (hb:(n+1)*bytes<=140737488355328):
  ∃a' c' W',(Builtin.append_ #[T,T] T #[v, .slice (some ⟨g,0,none⟩) 1 1]).run Tryz.prog V= .ok (.slice a' (n+1) c') W'/\Own W' E sz (.slice a' (n+1) c') (n+1) (xs++news)/\Kp (λk=>v.ownBlock=some k) V W'/\
   ((Value.slice a' (n+1) c').ownBlock=v.ownBlock\/ ∃g,(Value.slice a' (n+1) c').ownBlock=some g/\V.heap.size<=g):=by
 obtain ⟨i0,hi,hz⟩:=Option.map_eq_some_iff.1 hE;injection hz with hz0 hz;injection hz with hz1 hz2;obtain ⟨z,hz,hz3⟩:=Option.map_eq_some_iff.1 hz0
 have hsrc:Src V sz (.slice (some ⟨g,0,none⟩) 1 1) 1 news:=by
  refine ⟨by omega,some ⟨g,0,none⟩,1,rfl,Rd.row (n:=sz) hg ?_ (Q3 hg) (Nat.le_refl _)⟩;rw [List.drop_zero,hcs];exact List.take_of_length_le (by omega)
 obtain ⟨v',w',hrun,ho',hkp,hblk⟩:=Jk (P:=Tryz.prog) T T T E i0 z sz bytes hT ⟨_,hT⟩ hi hz hz1 hz2 hz3 v n xs ho (.slice (some ⟨g,0,none⟩) 1 1) 1 news hsrc hone (by simp only [maxLen];omega) hb;obtain ⟨_,a',c',rfl,_⟩:=id ho';exact ⟨a',c',w',hrun,ho',hkp,hblk⟩
theorem Qaj {T E sz bytes:Nat} (hT:Tryz.prog.underlying T=some (.slice E)) (hE:(Tryz.prog.info? E).map (λi=>((i.zero.map λz=>z.cells.size),i.size,i.bytes))=some (some sz,sz,bytes)) {W:World} {v:Value} {n:Nat} {xs news:List Value} (ho:Own W E sz v n xs)
  (hone: ∀u∈news,u.oneCell'=true) (hl:news.length=sz) {cs:Array Value} (hcs:cs.toList=news) (hn:n<=1100000000) (hb:(n+1)*bytes<=140737488355328):
  ∃a' c' W',(Builtin.append_ #[T,T] T #[v, .slice (some ⟨W.heap.size,0,none⟩) 1 1]).run Tryz.prog (W.alloc (.cells cs E))= .ok (.slice a' (n+1) c') W'/\Own W' E sz (.slice a' (n+1) c') (n+1) (xs++news)/\Kp (λk=>v.ownBlock=some k) W W'/\
   ((Value.slice a' (n+1) c').ownBlock=v.ownBlock\/ ∃g,(Value.slice a' (n+1) c').ownBlock=some g/\W.heap.size<=g):=by
 have hk:Kp No W (W.alloc (.cells cs E)):=zK.alloc _;obtain ⟨a',c',w',hrun,ho',hkp,hblk⟩:=Ey hT hE (ho.keep hk λ_ _ x=>x) hone hl (heap_alloc_new W _) hcs hn hb;refine ⟨a',c',w',hrun,ho',(Kp.of_no hk).trans_same hkp,?_⟩;rcases hblk with h|⟨g,h,h'⟩
 ·exact .inl h
 ·exact .inr ⟨g,h,Nat.le_trans hk.size h'⟩
theorem Qdb (P:ByteArray) (hP:P.size<=1000) (n:Nat) (hn:n<1000000) (w:World) (ht:Pow w):
  Calls Tryz.prog 184 #[.string P, .int .i64 (n:Int)] w λe w'=>e= .returned (.string (Eh P n))/\Kp No w w':=Qda P hP n hn w ht
theorem Gs (P:ByteArray) (hP:P.size<=1000) (n:Nat) (hn:n<1000000) (w:World):
  Calls Tryz.prog 179 #[.string P, .int .i64 (n:Int)] w λe w'=>e= .returned (.string (Eh P n))/\Kp No w w':=Qcg P hP n hn w
def Q9t (k:Int):List PanicEntry:=[{v:= .iface 280 (.agg #[.int .i64 k]),recovered:=false}]
def Qe4 (k:Int) (e:Ending):Prop:=(k=0/\e= .returned (.tuple #[]))\/(k≠0/\e= .panicked (Q9t k))
theorem Q4e (k:Int) (h0:0<=k) (h1:k<100) (w:World):Calls Tryz.prog 160 #[.int .i64 k] w λe w'=>Qe4 k e/\w=w':=by
 obtain ⟨n,rfl⟩:=Int.eq_ofNat_of_zero_le h0;rcases Nat.eq_zero_or_pos n with rfl|hn
 ·exact (Q9z w).mono λe w' h=>⟨.inl ⟨rfl,h.1⟩,h.2⟩
 ·exact (Qfu n hn (by omega) w).mono λe w' h=>⟨.inr ⟨by omega,h.1⟩,h.2⟩
theorem Q11 {s:Qu} {ns:List ByteArray} {c:Int} {fs:Jo} (h0:0<=c) (h1:c<100):0<=(five s ns c fs).1/\(five s ns c fs).1<100:=by
 unfold five;split
 ·show (0:Int)<=9/\(9:Int)<100
  decide
 ·split
  ·split
   ·show (0:Int)<=0/\(0:Int)<100
    decide
   ·exact ⟨h0,h1⟩
  ·show (0:Int)<=1/\(1:Int)<100
   decide
theorem Qar (s:Qu) (x:ByteArray):0<=(L8 s x).1/\(L8 s x).1<100:=by
 refine Q11 ?_ ?_<;>(unfold F8;split<;>decide)
theorem Ch (s:Qu) (x:ByteArray) (p:List UInt8):0<=(Lh s x p).1/\(Lh s x p).1<100:=by
 refine Q11 ?_ ?_<;>(unfold Yo;split<;>decide)
theorem Vx.Q2t {w:World} {l d:Nat} {P:ByteArray} {sv ev:Value} {S1:List (Nat×Nat)} {z:Nat×Nat} {E:List Row} {synced:Nat} {dead:Bool} (h:Vx w l d P sv ev (S1++[z]) E synced dead):
  ∃g off n cap,sv= .slice (some ⟨g,off,none⟩) n cap/\n=S1.length+1/\(n:Int)<=9223372036854775807/\g<w.heap.size/\(∀i,w.frozen? ⟨g,i,none⟩=false)/\
   (∀W,Kp No w W->W.cell? ⟨g,off+S1.length*2,none⟩=some (.string (Eh P z.1)))/\ ∀W,Kp No w W->W.cell? ⟨g,off+S1.length*2+1,none⟩=some (.int .i64 (z.2:Int)):=by
 obtain ⟨sa,sc,rfl,hsc,Qlh⟩:=h.Qk.rd;obtain ⟨g,off,rfl,hg,hfz⟩:=h.Qk.place (by simp);obtain ⟨g',off',hg',hc⟩:=Ye (Q66 P) (by decide) Qlh (k:=S1.length) (by simp);injection hg' with hg';injection hg' with e1 e2;subst e1;subst e2;have hget:(S1++[z])[S1.length]'(by simp)=z:=by simp
 rw [hget] at hc
 have hmx:(((S1++[z]).length:Nat):Int)<=9223372036854775807:=by
  obtain ⟨_,a',cap',hv',q1,q2,_⟩:=h.Qk;simp only [maxLen] at q2;omega
 refine ⟨g,off,_,sc,rfl,by simp,hmx,hg,hfz,λW hW=>?_,λW hW=>hc W hW 1 _ rfl⟩;have:=hc W hW 0 _ rfl;rwa [Nat.add_zero] at this
structure Lt (w:World) (d l:Nat) (P:ByteArray) (s:Qu) (st:J2) (F G:Nat->Prop):Prop where
 disk:Zd w d s F
 log:Em w l d P st G
 sep: ∀k,F k-> ¬G k
def Xp (F G:Nat->Prop):Nat->Prop:=λk=>F k\/G k
def Ze (w:World) (d l:Nat) (P:ByteArray) (F G:Nat->Prop) (s':Qu) (st':J2) (w':World):Prop:=
 ∃F' G',Lt w' d l P s' st' F' G'/\Qv F F' w/\Qv G G' w/\Kp (Xp F G) w w'
theorem Zd.lt {w:World} {d:Nat} {s:Qu} {F:Nat->Prop} (h:Zd w d s F): ∀k,F k->k<w.heap.size:=by
 obtain ⟨_,_,_,_,_,_,_,_,hF⟩:=h;exact hF
theorem Em.lt {w:World} {l d:Nat} {P:ByteArray} {st:J2} {G:Nat->Prop} (h:Em w l d P st G): ∀k,G k->k<w.heap.size:=by
 obtain ⟨_,_,_,_,_,_,hG⟩:=h;exact hG
theorem Lt.Av {w w':World} {d l:Nat} {P:ByteArray} {s s':Qu} {st:J2} {F G F':Nat->Prop} (h:Lt w d l P s st F G) (hD:Zd w' d s' F') (hF:Qv F F' w) (hk:Kp F w w'):Lt w' d l P s' st F' G:=
 ⟨hD,h.log.keep hk λk hg hf=>h.sep k hf hg,λk hf hg=>by
  rcases hF k hf with h1|h1
  ·exact h.sep k h1 hg
  ·have:=h.log.lt k hg;omega⟩
theorem Lt.Aw {w w':World} {d l:Nat} {P:ByteArray} {s:Qu} {st st':J2} {F G G':Nat->Prop} (h:Lt w d l P s st F G) (hL:Em w' l d P st' G') (hG:Qv G G' w) (hk:Kp G w w'):Lt w' d l P s st' F G':=
 ⟨h.disk.keep hk λk hf hg=>h.sep k hf hg,hL,λk hf hg=>by
  rcases hG k hg with h1|h1
  ·exact h.sep k hf h1
  ·have:=h.disk.lt k hf;omega⟩
theorem Lt.no {w w':World} {d l:Nat} {P:ByteArray} {s:Qu} {st:J2} {F G:Nat->Prop} (h:Lt w d l P s st F G) (hk:Kp No w w'):Lt w' d l P s st F G:=⟨h.disk.Q5 hk,h.log.Q5 hk,h.sep⟩
theorem Ze.here {w w':World} {d l:Nat} {P:ByteArray} {s:Qu} {st:J2} {F G:Nat->Prop} (h:Lt w d l P s st F G) (hk:Kp No w w'):Ze w d l P F G s st w':=⟨F,G,h.no hk,Qv.refl _ _,Qv.refl _ _,Kp.of_no hk⟩
theorem Ze.trans {w a b:World} {d l:Nat} {P:ByteArray} {s1 s2:Qu} {st1 st2:J2} {F G:Nat->Prop} (h: ∃F' G',Lt a d l P s1 st1 F' G'/\Qv F F' w/\Qv G G' w/\Kp (Xp F G) w a/\Ze a d l P F' G' s2 st2 b):Ze w d l P F G s2 st2 b:=by
 obtain ⟨F',G',h1,h2,h3,h4,F2,G2,k1,k2,k3,k4⟩:=h;refine ⟨F2,G2,k1,h2.trans k2 h4.size,h3.trans k3 h4.size,h4.trans k4 λi hi hb=>?_⟩;rcases hb with hb|hb
 ·rcases h2 i hb with x|x
  ·exact .inl x
  ·omega
 ·rcases h3 i hb with x|x
  ·exact .inr x
  ·omega
theorem Vx.cells {w:World} {l d:Nat} {P:ByteArray} {sv ev:Value} {S:List (Nat×Nat)} {E:List Row} {synced:Nat} {dead:Bool} (h:Vx w l d P sv ev S E synced dead):
  (∀W,Kp No w W->W.cell? ⟨l,0,none⟩=some (.pointer (some ⟨d,0,none⟩)))/\(∀W,Kp No w W->W.cell? ⟨l,1,none⟩=some (.string P))/\(∀W,Kp No w W->W.cell? ⟨l,2,none⟩=some sv)/\(∀W,Kp No w W->W.cell? ⟨l,3,none⟩=some ev)/\
   (∀W,Kp No w W->W.cell? ⟨l,4,none⟩=some (.int .i64 (synced:Int)))/\(∀W,Kp No w W->W.cell? ⟨l,5,none⟩=some (.bool dead))/\ ∀W,Kp No w W-> ∀i,W.frozen? ⟨l,i,none⟩=false:=
 ⟨λW hW=>by rw [Q0 (h.Q5 hW).cell];rfl,λW hW=>by rw [Q0 (h.Q5 hW).cell];rfl,λW hW=>by rw [Q0 (h.Q5 hW).cell];rfl,λW hW=>by rw [Q0 (h.Q5 hW).cell];rfl,
  λW hW=>by rw [Q0 (h.Q5 hW).cell];rfl,λW hW=>by rw [Q0 (h.Q5 hW).cell];rfl,λW hW i=>Qc (h.Q5 hW).cell i⟩
theorem Q1n (w:World) (d l:Nat) (P:ByteArray) (s:Qu) (st:J2) (F G:Nat->Prop) (h:Lt w d l P s st F G) (hne:st.Qk=[]->st.Qn.length<=st.synced):
  Calls Tryz.prog 185 #[.pointer (some ⟨l,0,none⟩)] w λe w'=>Ze w d l P F G (J0 P s st).2.1 (J0 P s st).2.2 w'/\Qe4 (J0 P s st).1 e:=by
 obtain ⟨sv,ev,E,hC,hE,Bd,Ub⟩:=h.log;obtain ⟨ea,ec,rfl,Qjl,_⟩:=hC.Qn.rd;obtain ⟨c0,_,c2,c3,c4,_,fr⟩:=hC.cells;have hll:=Q3 hC.cell;obtain ⟨n,hn⟩: ∃n,n=E.length:=⟨_,rfl⟩;have hnl:st.Qn.length=n:=by rw [hE,List.length_map,hn]
 rw [<-hn] at c3;obtain ⟨y,hy⟩: ∃y,y=st.synced:=⟨_,rfl⟩;rw [<-hy] at c4;have H:=zz h;by_cases hlt:y<n
 ·rcases List.eq_nil_or_concat st.Qk with hsg|⟨S1,z,hsg⟩
  ·have:=hne hsg;omega
  ·rw [List.concat_eq_append] at hsg;obtain ⟨sg,L5,sn,sc,rfl,hsn,Qlg,Q8h,_,G7,_⟩:=Vx.Q2t (by rw [hsg] at hC;exact hC);obtain ⟨m2,hm2⟩: ∃m2,m2=S1.length:=⟨_,rfl⟩;rw [<-hm2] at hsn G7;have hms:m2<sn:=by omega
   have hw3:(sn:Int)-1=(m2:Int):=by omega
   obtain ⟨zn,hzn⟩: ∃zn,zn=Eh P z.1:=⟨_,rfl⟩;rw [<-hzn] at G7
   have hsy:J0 P s st=((L8 s zn).1,(L8 s zn).2,if (L8 s zn).1=0 then {st with synced:=st.Qn.length} else st):=by
    unfold J0;rw [if_pos (by rw [<-hy,hnl];exact hlt),hsg,List.getLast?_append];simp only [List.getLast?_singleton,Option.some_or];rw [<-hzn]
   have e1:decide ((y:Int)<(n:Int))=true:=by rw [decide_eq_true_iff];omega
   have Q3w:=zz hsy;have HC:=zz hC;have HE:=zz hE;have Qsa:=zz Bd;have HN:=zz hn;have Qzc:=zz hnl;clear h hC hE Bd Ub hsg hm2 hsn hzn hsy hn hnl hy hne;go_enter Tryz.func185,Tryz.ntmps185
   go_upto_region 0 with fail
   refine zD No [0,0,0,0,0,0,0,0,1,0] [0,1,2,3,4,5,6,7,8,9] ?_;repeat (first|refine zA ?_|refine zB ?_|refine zC ?_)
   refine Q6 (λnq=>?_);have hkq:Kp No w (w.drewN nq):=(Kp.refl No w).drewN nq;obtain ⟨w9,Ll⟩: ∃W,W=w.drewN nq:=⟨_,rfl⟩;rw [<-Ll] at hkq⊢;have d0: ∀W,Kp No w9 W->W.cell? ⟨l,0,none⟩=some (.pointer (some ⟨d,0,none⟩)):=λW hW=>c0 W (hkq.trans_same hW);have d2: ∀W,Kp No w9 W->W.cell? ⟨l,2,none⟩=some (.slice (some ⟨sg,L5,none⟩) sn sc):=λW hW=>c2 W (hkq.trans_same hW);have dz: ∀W,Kp No w9 W->W.cell? ⟨sg,L5+m2*2,none⟩=some (.string zn):=λW hW=>G7 W (hkq.trans_same hW);have Ln:=zz c3;have Ja0:=zz c4;have Qxq:=zz hkq;clear Ll c0 c2 G7 c3 c4 hkq;go_upto_region 1 with fail
   refine N4 (Kp No w9) [0,0,0,0,0,0,0,0,0,0,0,0,1,0,0,0,0,2,2] [0,1,2,3,4,5,6,7,8,9,10,11,12,13,14,15,16] 17 [18] (by kernel_rfl) (by kernel_rfl) (λ_ n h=>h.drewN n) zK ?_;repeat (first|refine zA ?_|refine zB ?_|refine zC ?_)
   refine Q9u (λn1=>?_);refine Nw rfl ?_;have hc:=Qf3 (w9.drewN n1) d s F (H.out.disk.Q5 (Qxq.out.drewN n1)) zn;obtain ⟨q,hq⟩: ∃q,q=L8 s zn:=⟨_,rfl⟩;have hqc:=Qar s zn;have hsy:=Q3w.out;rw [<-hq] at hc hqc hsy;have HQ:=zz hsy;clear hq hsy Q3w;go_wp2_with fail
   with_reducible refine hc.mono ?_
   rintro e w1 ⟨rfl,F1,hD1,hF1,hK1⟩;clear hc;have hW1:Lt w1 d l P q.2 st F1 G:=(H.out.no Qxq.out).Av hD1 (λk hk=>hF1 k hk) hK1.of_drewN;obtain ⟨qc,hqe⟩: ∃qc,qc=q.1:=⟨_,rfl⟩;rw [<-hqe] at hqc⊢;have Qny:Kp F w w1:=(Kp.of_no Qxq.out).trans_same hK1.of_drewN;have Qnw:Qv F F1 w:=λk hk=>(hF1 k hk).imp id λh=>Nat.le_trans Qxq.out.size h;have J17:=λk hk=>H.out.sep k hk;have HW1:=zz hW1;have M6:=zz Qny;have Qdq:=zz Qnw;have Q06:=zz hqe;clear hD1 hF1 hK1 hW1 Qny Qnw hqe J17;go_wp2_with fail
   refine Nw rfl ?_;have hg:=Q4e qc hqc.1 hqc.2 w1;clear hqc;go_wp2_with fail
   with_reducible refine hg.mono ?_
   rintro e w' ⟨Ql3,rfl⟩;clear hg;rcases Ql3 with ⟨hz,rfl⟩|⟨hz,rfl⟩
   ·go_wp2_with fail
    refine Q1s ?_;have hnl: ∀k,Qje l (.slice (some ⟨sg,L5,none⟩) sn sc) (.slice ea E.length ec) E k-> ¬F k:=λk hk hf=>H.out.sep k hf (Qsa.out k hk);have Q7z:=HC.out.keep M6.out hnl;have Ql0:V1 w1 w1 l d P _ _ st.Qk E st.synced st.dead G:=⟨Q7z,λk hk=> .inl (Qsa.out k hk),Kp.refl _ _⟩;obtain ⟨_,_,_,g3,g4,_,J4q⟩:=Q7z.cells;have g3':=g3 w1 zK;have g4':=g4 w1 zK;have gf:=J4q w1 zK 4;rw [<-HN.out] at g3';have hcl:=Qh Q7z.cell 4 (.int .i64 (n:Int));have Qg0:=Ql0.flag (Zt:=n) (Uj:=st.dead) (W':=w1.setCell ⟨l,4,none⟩ (.int .i64 (n:Int))) ((Kp.refl (One l) _).setCell (p:=⟨l,4,none⟩) (.inl rfl) _) (by simpa using hcl);obtain ⟨G2,hL2,hG2,hK2⟩:=Qg0.stop;have J8r:=M6.out.lt hll;have hW2:=HW1.out.Aw hL2 hG2 hK2
    have Zv:=zz (show Ze w d l P F G (J0 P s st).2.1 (J0 P s st).2.2 (w1.setCell ⟨l,4,none⟩ (.int .i64 (n:Int)))/\Qe4 (J0 P s st).1 (.returned (.tuple #[])) from by
     rw [HQ.out];simp only
     rw [if_pos (by rw [<-Q06.out];exact hz)];refine ⟨⟨F1,G2,?_,Qdq.out,λk hk=>(hG2 k hk).imp id λh=>Nat.le_trans M6.out.size h,?_⟩, .inl ⟨by rw [<-Q06.out];exact hz,rfl⟩⟩
     ·rw [<-HE.out] at hW2;rw [Qzc.out];exact hW2
     ·exact (M6.out.mono (T:=Xp F G) λ_ _ x=> .inl x).trans hK2 λi _ x=> .inr x)
    clear Q7z Ql0 hcl Qg0 hL2 hG2 hK2 hW2 hnl g3 g4 J4q;go_wp2_with fail
    exact bodyPost_end (results_none rfl _ _ _) rfl Zv.out
   ·refine ⟨rfl,?_⟩;rw [HQ.out];simp only
    rw [if_neg (by rw [<-Q06.out];exact hz)];exact ⟨⟨F1,G,HW1.out,Qdq.out,Qv.refl _ _,M6.out.mono λ_ _ x=> .inl x⟩, .inr ⟨by rw [<-Q06.out];exact hz,by rw [<-Q06.out]⟩⟩
 ·have hsy:J0 P s st=(0,s,st):=by
   unfold J0;rw [if_neg (by rw [<-hy,hnl];exact hlt)]
  have e1:decide ((y:Int)<(n:Int))=false:=by rw [decide_eq_false_iff_not];omega
  have Q3w:=zz hsy;clear h hC hE Bd Ub hsy hn hnl hy hne c0 c2 fr;go_enter Tryz.func185,Tryz.ntmps185
  go_upto_region 0 with fail
  refine zD No [0,0,0,0,0,0,0,0,1,0] [0,1,2,3,4,5,6,7,8,9] ?_;repeat (first|refine zA ?_|refine zB ?_|refine zC ?_)
  refine Q6 (λnq=>?_);go_wp2_with fail
  refine bodyPost_end (results_none rfl _ _ _) rfl ?_;rw [Q3w.out];exact ⟨Ze.here H.out ((Kp.refl No w).drewN nq), .inl ⟨rfl,rfl⟩⟩
end Go.Proofs.YtgnkmjeoaoongaaGreatDoor
