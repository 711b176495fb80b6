/-
  DiskCut, WLog, WLogM, WEnds, WSyncs.
-/
import Derived.Test.YtgnkmjeoaoongaaGreatDoorVa5
import Derived.Test.YtgnkmjeoaoongaaGreatDoorVa7
set_option maxRecDepth 100000
set_option maxHeartbeats 4000000
namespace Go.Proofs.YtgnkmjeoaoongaaGreatDoor
open Go.RowKit Go.Mer
def Qur (s:Qz) (name:ByteArray) (n:Int):Int:=
 match Qs s.files name with
 |none=>7
 |some x=>if n<0\/(x.data.length:Int)<n then 1 else 0
def Qpc (l:Jl) (name:ByteArray) (n:Int):Jl:=
 match Qs l name with
 |some x=>Jb l name ⟨x.data.take n.toNat,min x.lasts n.toNat⟩
 |none=>l
def Jfk (s:Qz) (name:ByteArray) (n:Int):Int×Qz:=five s [name] (Qur s name n) (Qpc s.files name n)
structure Jf where
 Qi:List (List UInt8)
 Qk:List (Nat×Nat)
 synced:Nat
 dead:Bool
def X7 (P:ByteArray) (n:Nat):ByteArray:=⟨(Ou P.data.toList n).toArray⟩
def V5 (P:ByteArray) (x:ByteArray):Bool:=(Q97 P.data.toList x.data.toList).isSome
def J6n (P:ByteArray) (s:Qz) (Qk:List (Nat×Nat)) (x:ByteArray):Int×Qz:=
 match Qk.getLast? with
 |none=>Jd0 s x
 |some z=>if X7 P z.1=x then Jfk s x (z.2:Int) else Jd0 s x
def st0:Jf:=⟨[],[],0,false⟩
def J0 (P:ByteArray) (s:Qz) (st:Jf):Int×Qz×Jf:=
 if st.synced<st.Qi.length then
  match st.Qk.getLast? with
  |none=>(0,s,st)
  |some z=>((Da s (X7 P z.1)).1,(Da s (X7 P z.1)).2,if (Da s (X7 P z.1)).1=0 then {st with synced:=st.Qi.length} else st)
 else (0,s,st)
def Zo (n:Nat) (p:List UInt8):List UInt8:=Jt (Qq n++p)
def Jj (st:Jf):Bool:=match st.Qk.getLast? with|none=>true|some z=>decide (1024<=z.2)
def Oc (st:Jf):Nat:=match st.Qk.getLast? with|none=>0|some z=>z.1
def bump (Qk:List (Nat×Nat)) (k:Nat):List (Nat×Nat):=match Qk.getLast? with|none=>[]|some z=>Qk.dropLast++[(z.1,z.2+k)]
def Ju (P:ByteArray) (s:Qz) (st:Jf):Int×Qz×Jf:=if Jj st=true/\st.Qk≠[] then J0 P s st else (0,s,st)
def toN (P:ByteArray) (st:Jf):ByteArray:=X7 P (if Jj st=true then st.Qi.length+1 else Oc st)
def Y5 (st:Jf) (p:List UInt8):Jf:=
 {st with
  Qi:=st.Qi++[p]
  Qk:=if Jj st=true then st.Qk++[(st.Qi.length+1,(Zo (st.Qi.length+1) p).length)] else bump st.Qk (Zo (st.Qi.length+1) p).length}
def Jz (P:ByteArray) (s:Qz) (st:Jf) (p:List UInt8):(Nat×Int)×Qz×Jf:=
 if st.dead=true then ((0,9),s,st)
 else if 262134<p.length then ((0,5),s,st)
 else if (Ju P s st).1=0 then
  let q:=Gy (Ju P s st).2.1 (toN P st) (Zo (st.Qi.length+1) p)
  if q.1=0 then ((st.Qi.length+1,0),q.2,Y5 (Ju P s st).2.2 p) else ((0,q.1),q.2,{(Ju P s st).2.2 with dead:=decide (q.1≠6)})
 else ((0,(Ju P s st).1),(Ju P s st).2.1,{(Ju P s st).2.2 with dead:=decide ((Ju P s st).1≠6)})
def Yi (P:ByteArray) (s:Qz) (st:Jf):Int×Qz×Jf:=
 if st.dead=true then (9,s,st) else ((J0 P s st).1,(J0 P s st).2.1,{(J0 P s st).2.2 with dead:=decide ((J0 P s st).1≠0)})
theorem Pow.lt {w:World} (h:Pow w):0<w.heap.size:=by
 unfold Pow Lib.TabIs World.var? at h;rw [Qk1] at h;simp only [Option.bind_some] at h;cases hg:w.heap[0]? with
 |none=>rw [hg] at h;simp at h
 |some o=>exact Q7 hg
def Q1j (P:ByteArray) (z:Nat×Nat):List Value:=[.string (X7 P z.1), .int .i64 (z.2:Int)]
theorem Q96 (P:ByteArray) (z:Nat×Nat):(Q1j P z).length=2:=rfl
theorem Qmy (P:ByteArray) (z:Nat×Nat): ∀u∈Q1j P z,u.oneCell'=true:=by
 intro u hu;simp only [Q1j,List.mem_cons,List.not_mem_nil,or_false] at hu;rcases hu with rfl|rfl<;>rfl
def Iq (r:Row):List Value:=[r.val]
theorem Q8y (r:Row): ∀u∈Iq r,u.oneCell'=true:=by
 intro u hu;simp only [Iq,List.mem_cons,List.not_mem_nil,or_false] at hu;subst hu;rfl
def Dg (w:World) (r:Row):Prop:=Own w 5 1 r.val r.data.length (u8s r.data)/\r.data.length<=r.cap/\r.data.length<=1000000000
theorem Qqe:(Tryz.prog.info? 243).map (λi=>((i.zero.map λz=>z.cells.size),i.size,i.bytes))=some (some 2,2,24):=by kernel_rfl
theorem Q7m:(Tryz.prog.info? 42).map (λi=>((i.zero.map λz=>z.cells.size),i.size,i.bytes))=some (some 1,1,24):=by kernel_rfl
structure Uk (w:World) (l d:Nat) (P:ByteArray) (sv ev:Value) (S:List (Nat×Nat)) (E:List Row) (synced:Nat) (dead:Bool):Prop where
 cell:w.heap[l]?=some (.cells #[.pointer (some ⟨d,0,none⟩), .string P,sv,ev, .int .i64 (synced:Int), .bool dead] 241 (0,0))
 Qk:Own w 243 2 sv S.length (S.flatMap (Q1j P))
 Qi:Own w 42 1 ev E.length (E.flatMap Iq)
 each: ∀r∈E,Dg w r
def Qo5 (l:Nat) (sv ev:Value) (E:List Row):Nat->Prop:=λk=>k=l\/sv.ownBlock=some k\/ev.ownBlock=some k\/ ∃r∈E,r.val.ownBlock=some k
def Gh (w:World) (l d:Nat) (P:ByteArray) (st:Jf) (G:Nat->Prop):Prop:=
 ∃sv ev E,Uk w l d P sv ev st.Qk E st.synced st.dead/\st.Qi=E.map Row.data/\(∀k,Qo5 l sv ev E k->G k)/\ ∀k,G k->k<w.heap.size
section
variable {w w' W W':World} {l d:Nat} {P:ByteArray} {sv ev sv' ev':Value} {S S':List (Nat×Nat)} {E E':List Row} {synced Yd:Nat} {dead Fg:Bool} {G:Nat->Prop} {r:Row}
theorem Dg.keep {T:Nat->Prop} (h:Dg w r) (hk:Kp T w w') (hT: ∀g,r.val.ownBlock=some g-> ¬T g):Dg w' r:=⟨h.1.keep hk hT,h.2⟩
theorem Uk.keep {T:Nat->Prop} (h:Uk w l d P sv ev S E synced dead) (hk:Kp T w w') (hT: ∀k,Qo5 l sv ev E k-> ¬T k):Uk w' l d P sv ev S E synced dead:=
 ⟨hk.get h.cell (hT l (.inl rfl)),h.Qk.keep hk λg hg=>hT g (.inr (.inl hg)),h.Qi.keep hk λg hg=>hT g (.inr (.inr (.inl hg))),λr hr=>(h.each r hr).keep hk λg hg=>hT g (.inr (.inr (.inr ⟨r,hr,hg⟩)))⟩
theorem Uk.Q9 (h:Uk w l d P sv ev S E synced dead) (hk:Kp No w w'):Uk w' l d P sv ev S E synced dead:=h.keep hk λ_ _ x=>x
theorem Uk.lt (h:Uk w l d P sv ev S E synced dead): ∀k,Qo5 l sv ev E k->k<w.heap.size:=by
 rintro k (rfl|hk|hk|⟨r,hr,hk⟩)
 ·exact Q7 h.cell
 ·exact h.Qk.lt k hk
 ·exact h.Qi.lt k hk
 ·exact (h.each r hr).1.lt k hk
theorem Gh.keep {T:Nat->Prop} {st:Jf} (h:Gh w l d P st G) (hk:Kp T w w') (hT: ∀k,G k-> ¬T k):Gh w' l d P st G:=by
 obtain ⟨sv,ev,E,h1,h2,h3,h4⟩:=h;exact ⟨sv,ev,E,h1.keep hk (λk hf=>hT k (h3 k hf)),h2,h3,λk hf=>hk.lt (h4 k hf)⟩
theorem Gh.Q9 {st:Jf} (h:Gh w l d P st G) (hk:Kp No w w'):Gh w' l d P st G:=h.keep hk λ_ _ x=>x
theorem Uk.Xf (h:Uk w l d P sv ev S E synced dead) {g:Nat} (hg:sv.ownBlock=some g):g≠l/\ev.ownBlock≠some g/\ ∀r∈E,r.val.ownBlock≠some g:=by
 obtain ⟨cur,hc⟩:=h.Qk.type g hg;refine ⟨Qd hc h.cell (by decide),λe=>?_,λr hr e=>?_⟩
 ·obtain ⟨cur',hc'⟩:=h.Qi.type g e;exact Qd hc hc' (by decide) rfl
 ·obtain ⟨cur',hc'⟩:=(h.each r hr).1.type g e;exact Qd hc hc' (by decide) rfl
theorem Uk.V4 (h:Uk w l d P sv ev S E synced dead) {g:Nat} (hg:ev.ownBlock=some g):g≠l/\sv.ownBlock≠some g/\ ∀r∈E,r.val.ownBlock≠some g:=by
 obtain ⟨cur,hc⟩:=h.Qi.type g hg;refine ⟨Qd hc h.cell (by decide),λe=>?_,λr hr e=>?_⟩
 ·obtain ⟨cur',hc'⟩:=h.Qk.type g e;exact Qd hc hc' (by decide) rfl
 ·obtain ⟨cur',hc'⟩:=(h.each r hr).1.type g e;exact Qd hc hc' (by decide) rfl
theorem Uk.row_ne (h:Uk w l d P sv ev S E synced dead) (hr:r∈E) {g:Nat} (hg:r.val.ownBlock=some g):g≠l:=by
 obtain ⟨cur,hc⟩:=(h.each r hr).1.type g hg;exact Qd hc h.cell (by decide)
theorem Uk.turn (h:Uk w l d P sv ev S E synced dead) (hk:Kp (One l) w w') (hc:w'.heap[l]?=some (.cells #[.pointer (some ⟨d,0,none⟩), .string P,sv,ev, .int .i64 (Yd:Int), .bool Fg] 241 (0,0))):Uk w' l d P sv ev S E Yd Fg:=
 ⟨hc,h.Qk.keep hk λg hg (e:g=l)=>(h.Xf hg).1 e,h.Qi.keep hk λg hg (e:g=l)=>(h.V4 hg).1 e,λr hr=>(h.each r hr).keep hk λg hg (e:g=l)=>h.row_ne hr hg e⟩
structure Vg (w W:World) (l d:Nat) (P:ByteArray) (sv ev:Value) (S:List (Nat×Nat)) (E:List Row) (synced:Nat) (dead:Bool) (G:Nat->Prop):Prop where
 c:Uk W l d P sv ev S E synced dead
 foot: ∀k,Qo5 l sv ev E k->G k\/w.heap.size<=k
 kp:Kp G w W
theorem Vg.start {st:Jf} (h:Gh w l d P st G): ∃sv ev E,Vg w w l d P sv ev st.Qk E st.synced st.dead G/\st.Qi=E.map Row.data/\ ∀k,G k->k<w.heap.size:=by
 obtain ⟨sv,ev,E,h1,h2,h3,h4⟩:=h;exact ⟨sv,ev,E,⟨h1,λk hk=> .inl (h3 k hk),Kp.refl _ _⟩,h2,h4⟩
theorem Vg.stop (h:Vg w W l d P sv ev S E synced dead G): ∃G',Gh W l d P ⟨E.map Row.data,S,synced,dead⟩ G'/\Je G G' w/\Kp G w W:=
 ⟨Qo5 l sv ev E,⟨sv,ev,E,h.c,rfl,λ_ x=>x,h.c.lt⟩,h.foot,h.kp⟩
theorem Vg.step {T:Nat->Prop} (h:Vg w W l d P sv ev S E synced dead G) (hk:Kp T W W') (hT: ∀k,T k->Qo5 l sv ev E k\/W.heap.size<=k) (hc:Uk W' l d P sv' ev' S' E' Yd Fg) (hf: ∀k,Qo5 l sv' ev' E' k->Qo5 l sv ev E k\/W.heap.size<=k):
  Vg w W' l d P sv' ev' S' E' Yd Fg G:=by
 have hsz:=h.kp.size;refine ⟨hc,λk hk'=>?_,h.kp.trans hk λi hi hs=>?_⟩
 ·rcases hf k hk' with h1|h1
  ·exact h.foot k h1
  ·exact .inr (Nat.le_trans hsz h1)
 ·rcases hT i hs with h1|h1
  ·rcases h.foot i h1 with h2|h2
   ·exact h2
   ·omega
  ·omega
theorem Vg.no (h:Vg w W l d P sv ev S E synced dead G) (hk:Kp No W W'):Vg w W' l d P sv ev S E synced dead G:=h.step hk (λ_ x=>x.elim) (h.c.Q9 hk) λ_ x=> .inl x
theorem Vg.J6o (h:Vg w W l d P sv ev S E synced dead G) (hr:Dg W r) (hrf: ∀g,r.val.ownBlock=some g->G g\/w.heap.size<=g) (hk:Kp (λk=>ev.ownBlock=some k) W W') (ho:Own W' 42 1 ev' (E++[r]).length ((E++[r]).flatMap Iq)) (hf:ev'.ownBlock=ev.ownBlock\/ ∃g,ev'.ownBlock=some g/\W.heap.size<=g):
  Vg w (W'.setCell ⟨l,3,none⟩ ev') l d P sv ev' S (E++[r]) synced dead G:=by
 have hc:=h.c;have hcell:=hk.get hc.cell λe=>(hc.V4 e).1 rfl;have hs:Kp (One l) W' (W'.setCell ⟨l,3,none⟩ ev'):=(Kp.refl (One l) _).setCell (p:=⟨l,3,none⟩) (.inl rfl) _;have hll:=Q7 hc.cell
 have hrn: ∀g,r.val.ownBlock=some g->g≠l/\ev.ownBlock≠some g:=λg hg=>by
  obtain ⟨cur,E2⟩:=hr.1.type g hg;refine ⟨Qd E2 hc.cell (by decide),λe=>?_⟩;obtain ⟨cur',hc'⟩:=hc.Qi.type g e;exact Qd E2 hc' (by decide) rfl
 have hall:Kp (λk=>k=l\/ev.ownBlock=some k) W (W'.setCell ⟨l,3,none⟩ ev'):=(hk.mono λ_ _ x=> .inr x).trans hs λi _ (e:i=l)=> .inl e;have hsz:=h.kp.size
 have hE: ∀q∈E++[r],Dg (W'.setCell ⟨l,3,none⟩ ev') q:=λq hq=>by
  rcases List.mem_append.1 hq with hq|hq
  ·refine (hc.each q hq).keep hall λg hg hT=>?_;rcases hT with hT|hT
   ·exact hc.row_ne hq hg hT
   ·exact (hc.V4 hT).2.2 q hq hg
  ·rw [List.mem_singleton] at hq;subst hq;exact hr.keep hall λg hg hT=>hT.elim (hrn g hg).1 (hrn g hg).2
 have hfo: ∀k,Qo5 l sv ev' (E++[r]) k->G k\/w.heap.size<=k:=by
  rintro k (rfl|hk'|hk'|⟨q,hq,hk'⟩)
  ·exact h.foot _ (.inl rfl)
  ·exact h.foot _ (.inr (.inl hk'))
  ·rcases hf with e|⟨g,e,hg⟩
   ·exact h.foot _ (.inr (.inr (.inl (e▸hk'))))
   ·rw [e] at hk';injection hk' with hk';right;omega
  ·rcases List.mem_append.1 hq with hq|hq
   ·exact h.foot _ (.inr (.inr (.inr ⟨q,hq,hk'⟩)))
   ·rw [List.mem_singleton] at hq;subst hq;exact hrf k hk'
 refine ⟨⟨by have:=Ql hcell 3 ev';simpa using this,hc.Qk.keep hall λg hg hT=>hT.elim (hc.Xf hg).1 (hc.Xf hg).2.1,?_,hE⟩,hfo,h.kp.trans hall λi hi hT=>?_⟩
 ·refine ho.keep hs λg hg (e:g=l)=>?_;rcases hf with e'|⟨g',e',hg'⟩
  ·exact (hc.V4 (e'▸hg)).1 e
  ·rw [e'] at hg;injection hg with hg;omega
 ·rcases hT with rfl|hT
  ·rcases h.foot _ (.inl rfl) with h1|h1
   ·exact h1
   ·omega
  ·rcases h.foot _ (.inr (.inr (.inl hT))) with h1|h1
   ·exact h1
   ·omega
theorem Vg.J4x (h:Vg w W l d P sv ev S E synced dead G) (hk:Kp (λk=>sv.ownBlock=some k) W W') (ho:Own W' 243 2 sv' S'.length (S'.flatMap (Q1j P))) (hf:sv'.ownBlock=sv.ownBlock\/ ∃g,sv'.ownBlock=some g/\W.heap.size<=g):
  Vg w (W'.setCell ⟨l,2,none⟩ sv') l d P sv' ev S' E synced dead G:=by
 have hc:=h.c;have hcell:=hk.get hc.cell λe=>(hc.Xf e).1 rfl;have hs:Kp (One l) W' (W'.setCell ⟨l,2,none⟩ sv'):=(Kp.refl (One l) _).setCell (p:=⟨l,2,none⟩) (.inl rfl) _;have hll:=Q7 hc.cell;have hall:Kp (λk=>k=l\/sv.ownBlock=some k) W (W'.setCell ⟨l,2,none⟩ sv'):=(hk.mono λ_ _ x=> .inr x).trans hs λi _ (e:i=l)=> .inl e;refine h.step hall (λk hT=>hT.elim (λe=> .inl (.inl e)) λe=> .inl (.inr (.inl e))) ⟨by have:=Ql hcell 2 sv';simpa using this,?_,hc.Qi.keep hall λg hg hT=>hT.elim (hc.V4 hg).1 (hc.V4 hg).2.1,λq hq=>(hc.each q hq).keep hall λg hg hT=>hT.elim (hc.row_ne hq hg) λe=>(hc.Xf e).2.2 q hq hg⟩ ?_
 ·refine ho.keep hs λg hg (e:g=l)=>?_;rcases hf with e'|⟨g',e',hg'⟩
  ·exact (hc.Xf (e'▸hg)).1 e
  ·rw [e'] at hg;injection hg with hg;omega
 ·rintro k (rfl|hk'|hk'|hk')
  ·exact .inl (.inl rfl)
  ·rcases hf with e|⟨g,e,hg⟩
   ·exact .inl (.inr (.inl (e▸hk')))
   ·rw [e] at hk';injection hk' with hk';right;omega
  ·exact .inl (.inr (.inr (.inl hk')))
  ·exact .inl (.inr (.inr (.inr hk')))
theorem Vg.flag (h:Vg w W l d P sv ev S E synced dead G) (hk:Kp (One l) W W') (hc:W'.heap[l]?=some (.cells #[.pointer (some ⟨d,0,none⟩), .string P,sv,ev, .int .i64 (Yd:Int), .bool Fg] 241 (0,0))):Vg w W' l d P sv ev S E Yd Fg G:=
 h.step hk (λk (e:k=l)=> .inl (.inl e)) (h.c.turn hk hc) λ_ x=> .inl x
end
theorem Oh {T E sz bytes:Nat} (hT:Tryz.prog.underlying T=some (.slice E)) (hE:(Tryz.prog.info? E).map (λi=>((i.zero.map λz=>z.cells.size),i.size,i.bytes))=some (some sz,sz,bytes)) {V:World} {v:Value} {n:Nat} {xs news:List Value} (ho:Own V E sz v n xs)
  (hone: ∀u∈news,u.oneCell'=true) (hl:news.length=sz) {g:Nat} {cs:Array Value} (hg:V.heap[g]?=some (.cells cs E (0,0))) (hcs:cs.toList=news) (hn:n<=1100000000) (hb:(n+1)*bytes<=140737488355328):
  ∃a' c' W',(Builtin.append_ #[T,T] T #[v, .slice (some ⟨g,0,none⟩) 1 1]).run Tryz.prog V= .ok (.slice a' (n+1) c') W'/\Own W' E sz (.slice a' (n+1) c') (n+1) (xs++news)/\Kp (λk=>v.ownBlock=some k) V W'/\
   ((Value.slice a' (n+1) c').ownBlock=v.ownBlock\/ ∃g,(Value.slice a' (n+1) c').ownBlock=some g/\V.heap.size<=g):=by
 obtain ⟨i0,hi,hz⟩:=Option.map_eq_some_iff.1 hE;injection hz with hz0 hz;injection hz with hz1 hz2;obtain ⟨z,hz,hz3⟩:=Option.map_eq_some_iff.1 hz0
 have hsrc:Src V sz (.slice (some ⟨g,0,none⟩) 1 1) 1 news:=by
  refine ⟨by omega,some ⟨g,0,none⟩,1,rfl,Rd.row (n:=sz) hg ?_ (Q7 hg) (Nat.le_refl _)⟩;rw [List.drop_zero,hcs];exact List.take_of_length_le (by omega)
 obtain ⟨v',w',hrun,ho',hkp,hblk⟩:=Z0 (P:=Tryz.prog) T T T E i0 z sz bytes hT ⟨_,hT⟩ hi hz hz1 hz2 hz3 v n xs ho (.slice (some ⟨g,0,none⟩) 1 1) 1 news hsrc hone (by simp only [maxLen];omega) hb;obtain ⟨_,a',c',rfl,_⟩:=id ho';exact ⟨a',c',w',hrun,ho',hkp,hblk⟩
theorem Og {T E sz bytes:Nat} (hT:Tryz.prog.underlying T=some (.slice E)) (hE:(Tryz.prog.info? E).map (λi=>((i.zero.map λz=>z.cells.size),i.size,i.bytes))=some (some sz,sz,bytes)) {W:World} {v:Value} {n:Nat} {xs news:List Value} (ho:Own W E sz v n xs)
  (hone: ∀u∈news,u.oneCell'=true) (hl:news.length=sz) {cs:Array Value} (hcs:cs.toList=news) (hn:n<=1100000000) (hb:(n+1)*bytes<=140737488355328):
  ∃a' c' W',(Builtin.append_ #[T,T] T #[v, .slice (some ⟨W.heap.size,0,none⟩) 1 1]).run Tryz.prog (W.alloc (.cells cs E))= .ok (.slice a' (n+1) c') W'/\Own W' E sz (.slice a' (n+1) c') (n+1) (xs++news)/\Kp (λk=>v.ownBlock=some k) W W'/\
   ((Value.slice a' (n+1) c').ownBlock=v.ownBlock\/ ∃g,(Value.slice a' (n+1) c').ownBlock=some g/\W.heap.size<=g):=by
 have hk:Kp No W (W.alloc (.cells cs E)):=zK.alloc _;obtain ⟨a',c',w',hrun,ho',hkp,hblk⟩:=Oh hT hE (ho.keep hk λ_ _ x=>x) hone hl (heap_alloc_new W _) hcs hn hb;refine ⟨a',c',w',hrun,ho',(Kp.Qx hk).Q0 hkp,?_⟩;rcases hblk with h|⟨g,h,h'⟩
 ·exact .inl h
 ·exact .inr ⟨g,h,Nat.le_trans hk.size h'⟩
theorem Qhf (P:ByteArray) (hP:P.size<=1000) (n:Nat) (hn:n<1000000) (w:World) (ht:Pow w):
  Calls Tryz.prog 184 #[.string P, .int .i64 (n:Int)] w λe w'=>e= .returned (.string (X7 P n))/\Kp No w w':=Qhe P hP n hn w ht
theorem Kl (P:ByteArray) (hP:P.size<=1000) (n:Nat) (hn:n<1000000) (w:World):
  Calls Tryz.prog 179 #[.string P, .int .i64 (n:Int)] w λe w'=>e= .returned (.string (X7 P n))/\Kp No w w':=Qgn P hP n hn w
def Qdi (k:Int):List PanicEntry:=[{v:= .iface 280 (.agg #[.int .i64 k]),recovered:=false}]
def Qia (k:Int) (e:Ending):Prop:=(k=0/\e= .returned (.tuple #[]))\/(k≠0/\e= .panicked (Qdi k))
theorem Q6y (k:Int) (h0:0<=k) (h1:k<100) (w:World):Calls Tryz.prog 160 #[.int .i64 k] w λe w'=>Qia k e/\w=w':=by
 obtain ⟨n,rfl⟩:=Int.eq_ofNat_of_zero_le h0;rcases Nat.eq_zero_or_pos n with rfl|hn
 ·exact (Qdo w).mono λe w' h=>⟨.inl ⟨rfl,h.1⟩,h.2⟩
 ·exact (Qk4 n hn (by omega) w).mono λe w' h=>⟨.inr ⟨by omega,h.1⟩,h.2⟩
theorem Q37 {s:Qz} {ns:List ByteArray} {c:Int} {fs:Jl} (h0:0<=c) (h1:c<100):0<=(five s ns c fs).1/\(five s ns c fs).1<100:=by
 unfold five;split
 ·show (0:Int)<=9/\(9:Int)<100
  decide
 ·split
  ·split
   ·show (0:Int)<=0/\(0:Int)<100
    decide
   ·exact ⟨h0,h1⟩
  ·show (0:Int)<=1/\(1:Int)<100
   decide
theorem Qel (s:Qz) (x:ByteArray):0<=(Da s x).1/\(Da s x).1<100:=by
 refine Q37 ?_ ?_<;>(unfold Uw;split<;>decide)
theorem Ai (s:Qz) (x:ByteArray) (p:List UInt8):0<=(Gy s x p).1/\(Gy s x p).1<100:=by
 refine Q37 ?_ ?_<;>(unfold Zr;split<;>decide)
theorem Uk.Q56 {w:World} {l d:Nat} {P:ByteArray} {sv ev:Value} {S1:List (Nat×Nat)} {z:Nat×Nat} {E:List Row} {synced:Nat} {dead:Bool} (h:Uk w l d P sv ev (S1++[z]) E synced dead):
  ∃g off n cap,sv= .slice (some ⟨g,off,none⟩) n cap/\n=S1.length+1/\(n:Int)<=9223372036854775807/\g<w.heap.size/\(∀i,w.frozen? ⟨g,i,none⟩=false)/\
   (∀W,Kp No w W->W.cell? ⟨g,off+S1.length*2,none⟩=some (.string (X7 P z.1)))/\ ∀W,Kp No w W->W.cell? ⟨g,off+S1.length*2+1,none⟩=some (.int .i64 (z.2:Int)):=by
 obtain ⟨sa,sc,rfl,hsc,Qqb⟩:=h.Qk.rd;obtain ⟨g,off,rfl,hg,hfz⟩:=h.Qk.place (by simp);obtain ⟨g',off',hg',hc⟩:=Zb (Q96 P) (by decide) Qqb (k:=S1.length) (by simp);injection hg' with hg';injection hg' with e1 e2;subst e1;subst e2;have hget:(S1++[z])[S1.length]'(by simp)=z:=by simp
 rw [hget] at hc
 have hmx:(((S1++[z]).length:Nat):Int)<=9223372036854775807:=by
  obtain ⟨_,a',cap',hv',q1,q2,_⟩:=h.Qk;simp only [maxLen] at q2;omega
 refine ⟨g,off,_,sc,rfl,by simp,hmx,hg,hfz,λW hW=>?_,λW hW=>hc W hW 1 _ rfl⟩;have:=hc W hW 0 _ rfl;rwa [Nat.add_zero] at this
structure C0 (w:World) (d l:Nat) (P:ByteArray) (s:Qz) (st:Jf) (F G:Nat->Prop):Prop where
 disk:Zd w d s F
 log:Gh w l d P st G
 sep: ∀k,F k-> ¬G k
def V2 (F G:Nat->Prop):Nat->Prop:=λk=>F k\/G k
def Zu (w:World) (d l:Nat) (P:ByteArray) (F G:Nat->Prop) (s':Qz) (st':Jf) (w':World):Prop:=
 ∃F' G',C0 w' d l P s' st' F' G'/\Je F F' w/\Je G G' w/\Kp (V2 F G) w w'
theorem Zd.lt {w:World} {d:Nat} {s:Qz} {F:Nat->Prop} (h:Zd w d s F): ∀k,F k->k<w.heap.size:=by
 obtain ⟨_,_,_,_,_,_,_,_,hF⟩:=h;exact hF
theorem Gh.lt {w:World} {l d:Nat} {P:ByteArray} {st:Jf} {G:Nat->Prop} (h:Gh w l d P st G): ∀k,G k->k<w.heap.size:=by
 obtain ⟨_,_,_,_,_,_,hG⟩:=h;exact hG
theorem C0.Q1w {w w':World} {d l:Nat} {P:ByteArray} {s s':Qz} {st:Jf} {F G F':Nat->Prop} (h:C0 w d l P s st F G) (hD:Zd w' d s' F') (hF:Je F F' w) (hk:Kp F w w'):C0 w' d l P s' st F' G:=
 ⟨hD,h.log.keep hk λk hg hf=>h.sep k hf hg,λk hf hg=>by
  rcases hF k hf with h1|h1
  ·exact h.sep k h1 hg
  ·have:=h.log.lt k hg;omega⟩
theorem C0.Q1x {w w':World} {d l:Nat} {P:ByteArray} {s:Qz} {st st':Jf} {F G G':Nat->Prop} (h:C0 w d l P s st F G) (hL:Gh w' l d P st' G') (hG:Je G G' w) (hk:Kp G w w'):C0 w' d l P s st' F G':=
 ⟨h.disk.keep hk λk hf hg=>h.sep k hf hg,hL,λk hf hg=>by
  rcases hG k hg with h1|h1
  ·exact h.sep k hf h1
  ·have:=h.disk.lt k hf;omega⟩
theorem C0.no {w w':World} {d l:Nat} {P:ByteArray} {s:Qz} {st:Jf} {F G:Nat->Prop} (h:C0 w d l P s st F G) (hk:Kp No w w'):C0 w' d l P s st F G:=⟨h.disk.Q9 hk,h.log.Q9 hk,h.sep⟩
theorem Zu.here {w w':World} {d l:Nat} {P:ByteArray} {s:Qz} {st:Jf} {F G:Nat->Prop} (h:C0 w d l P s st F G) (hk:Kp No w w'):Zu w d l P F G s st w':=⟨F,G,h.no hk,Je.refl _ _,Je.refl _ _,Kp.Qx hk⟩
theorem Zu.trans {w a b:World} {d l:Nat} {P:ByteArray} {s1 s2:Qz} {st1 st2:Jf} {F G:Nat->Prop} (h: ∃F' G',C0 a d l P s1 st1 F' G'/\Je F F' w/\Je G G' w/\Kp (V2 F G) w a/\Zu a d l P F' G' s2 st2 b):Zu w d l P F G s2 st2 b:=by
 obtain ⟨F',G',h1,h2,h3,h4,F2,G2,k1,k2,k3,k4⟩:=h;refine ⟨F2,G2,k1,h2.trans k2 h4.size,h3.trans k3 h4.size,h4.trans k4 λi hi hb=>?_⟩;rcases hb with hb|hb
 ·rcases h2 i hb with x|x
  ·exact .inl x
  ·omega
 ·rcases h3 i hb with x|x
  ·exact .inr x
  ·omega
theorem Uk.cells {w:World} {l d:Nat} {P:ByteArray} {sv ev:Value} {S:List (Nat×Nat)} {E:List Row} {synced:Nat} {dead:Bool} (h:Uk w l d P sv ev S E synced dead):
  (∀W,Kp No w W->W.cell? ⟨l,0,none⟩=some (.pointer (some ⟨d,0,none⟩)))/\(∀W,Kp No w W->W.cell? ⟨l,1,none⟩=some (.string P))/\(∀W,Kp No w W->W.cell? ⟨l,2,none⟩=some sv)/\(∀W,Kp No w W->W.cell? ⟨l,3,none⟩=some ev)/\
   (∀W,Kp No w W->W.cell? ⟨l,4,none⟩=some (.int .i64 (synced:Int)))/\(∀W,Kp No w W->W.cell? ⟨l,5,none⟩=some (.bool dead))/\ ∀W,Kp No w W-> ∀i,W.frozen? ⟨l,i,none⟩=false:=
 ⟨λW hW=>by rw [Q4 (h.Q9 hW).cell];rfl,λW hW=>by rw [Q4 (h.Q9 hW).cell];rfl,λW hW=>by rw [Q4 (h.Q9 hW).cell];rfl,λW hW=>by rw [Q4 (h.Q9 hW).cell];rfl,
  λW hW=>by rw [Q4 (h.Q9 hW).cell];rfl,λW hW=>by rw [Q4 (h.Q9 hW).cell];rfl,λW hW i=>Qh (h.Q9 hW).cell i⟩
theorem Q3z (w:World) (d l:Nat) (P:ByteArray) (s:Qz) (st:Jf) (F G:Nat->Prop) (h:C0 w d l P s st F G) (hne:st.Qk=[]->st.Qi.length<=st.synced):
  Calls Tryz.prog 185 #[.pointer (some ⟨l,0,none⟩)] w λe w'=>Zu w d l P F G (J0 P s st).2.1 (J0 P s st).2.2 w'/\Qia (J0 P s st).1 e:=by
 obtain ⟨sv,ev,E,hC,hE,Q0c,Ku⟩:=h.log;obtain ⟨ea,ec,rfl,Qob,_⟩:=hC.Qi.rd;obtain ⟨c0,_,c2,c3,c4,_,fr⟩:=hC.cells;have hll:=Q7 hC.cell;obtain ⟨n,hn⟩: ∃n,n=E.length:=⟨_,rfl⟩;have hnl:st.Qi.length=n:=by rw [hE,List.length_map,hn]
 rw [<-hn] at c3;obtain ⟨y,hy⟩: ∃y,y=st.synced:=⟨_,rfl⟩;rw [<-hy] at c4;have H:=zz h;by_cases hlt:y<n
 ·rcases List.eq_nil_or_concat st.Qk with hsg|⟨S1,z,hsg⟩
  ·have:=hne hsg;omega
  ·rw [List.concat_eq_append] at hsg;obtain ⟨sg,Hc,sn,sc,rfl,hsn,Qqa,Qbu,_,Gt,_⟩:=Uk.Q56 (by rw [hsg] at hC;exact hC);obtain ⟨m2,hm2⟩: ∃m2,m2=S1.length:=⟨_,rfl⟩;rw [<-hm2] at hsn Gt;have hms:m2<sn:=by omega
   have hw3:(sn:Int)-1=(m2:Int):=by omega
   obtain ⟨zn,hzn⟩: ∃zn,zn=X7 P z.1:=⟨_,rfl⟩;rw [<-hzn] at Gt
   have hsy:J0 P s st=((Da s zn).1,(Da s zn).2,if (Da s zn).1=0 then {st with synced:=st.Qi.length} else st):=by
    unfold J0;rw [if_pos (by rw [<-hy,hnl];exact hlt),hsg,List.getLast?_append];simp only [List.getLast?_singleton,Option.some_or];rw [<-hzn]
   have e1:decide ((y:Int)<(n:Int))=true:=by rw [decide_eq_true_iff];omega
   have Q6g:=zz hsy;have HC:=zz hC;have HE:=zz hE;have Qxb:=zz Q0c;have HN:=zz hn;have Qxc:=zz hnl;clear h hC hE Q0c Ku hsg hm2 hsn hzn hsy hn hnl hy hne;go_enter Tryz.func185,Tryz.ntmps185
   go_upto_region 0 with fail
   refine zD No [0,0,0,0,0,0,0,0,1,0] [0,1,2,3,4,5,6,7,8,9] ?_;repeat (first|refine zA ?_|refine zB ?_|refine zC ?_)
   refine Qa (λnq=>?_);have hkq:Kp No w (w.drewN nq):=(Kp.refl No w).drewN nq;obtain ⟨w9,Mc⟩: ∃W,W=w.drewN nq:=⟨_,rfl⟩;rw [<-Mc] at hkq⊢;have d0: ∀W,Kp No w9 W->W.cell? ⟨l,0,none⟩=some (.pointer (some ⟨d,0,none⟩)):=λW hW=>c0 W (hkq.Q0 hW);have d2: ∀W,Kp No w9 W->W.cell? ⟨l,2,none⟩=some (.slice (some ⟨sg,Hc,none⟩) sn sc):=λW hW=>c2 W (hkq.Q0 hW);have dz: ∀W,Kp No w9 W->W.cell? ⟨sg,Hc+m2*2,none⟩=some (.string zn):=λW hW=>Gt W (hkq.Q0 hW);have Db:=zz c3;have Qx5:=zz c4;have Qyl:=zz hkq;clear Mc c0 c2 Gt c3 c4 hkq;go_upto_region 1 with fail
   refine Ml (Kp No w9) [0,0,0,0,0,0,0,0,0,0,0,0,1,0,0,0,0,2,2] [0,1,2,3,4,5,6,7,8,9,10,11,12,13,14,15,16] 17 [18] (by kernel_rfl) (by kernel_rfl) (λ_ n h=>h.drewN n) zK ?_;repeat (first|refine zA ?_|refine zB ?_|refine zC ?_)
   refine Qdj (λn1=>?_);refine Li rfl ?_;have hc:=Qj3 (w9.drewN n1) d s F (H.out.disk.Q9 (Qyl.out.drewN n1)) zn;obtain ⟨q,hq⟩: ∃q,q=Da s zn:=⟨_,rfl⟩;have hqc:=Qel s zn;have hsy:=Q6g.out;rw [<-hq] at hc hqc hsy;have HQ:=zz hsy;clear hq hsy Q6g;go_wp2_with fail
   with_reducible refine hc.mono ?_
   rintro e w1 ⟨rfl,F1,hD1,hF1,hK1⟩;clear hc;have hW1:C0 w1 d l P q.2 st F1 G:=(H.out.no Qyl.out).Q1w hD1 (λk hk=>hF1 k hk) hK1.Qf;obtain ⟨qc,hqe⟩: ∃qc,qc=q.1:=⟨_,rfl⟩;rw [<-hqe] at hqc⊢;have Qsp:Kp F w w1:=(Kp.Qx Qyl.out).Q0 hK1.Qf;have Qsn:Je F F1 w:=λk hk=>(hF1 k hk).imp id λh=>Nat.le_trans Qyl.out.size h;have J7o:=λk hk=>H.out.sep k hk;have HW1:=zz hW1;have Dc:=zz Qsp;have Qhx:=zz Qsn;have Q2b:=zz hqe;clear hD1 hF1 hK1 hW1 Qsp Qsn hqe J7o;go_wp2_with fail
   refine Li rfl ?_;have hg:=Q6y qc hqc.1 hqc.2 w1;clear hqc;go_wp2_with fail
   with_reducible refine hg.mono ?_
   rintro e w' ⟨Qq0,rfl⟩;clear hg;rcases Qq0 with ⟨hz,rfl⟩|⟨hz,rfl⟩
   ·go_wp2_with fail
    refine Q41 ?_;have hnl: ∀k,Qo5 l (.slice (some ⟨sg,Hc,none⟩) sn sc) (.slice ea E.length ec) E k-> ¬F k:=λk hk hf=>H.out.sep k hf (Qxb.out k hk);have Qb5:=HC.out.keep Dc.out hnl;have Qpx:Vg w1 w1 l d P _ _ st.Qk E st.synced st.dead G:=⟨Qb5,λk hk=> .inl (Qxb.out k hk),Kp.refl _ _⟩;obtain ⟨_,_,_,g3,g4,_,Jbb⟩:=Qb5.cells;have g3':=g3 w1 zK;have g4':=g4 w1 zK;have gf:=Jbb w1 zK 4;rw [<-HN.out] at g3';have hcl:=Ql Qb5.cell 4 (.int .i64 (n:Int));have Qka:=Qpx.flag (Yd:=n) (Fg:=st.dead) (W':=w1.setCell ⟨l,4,none⟩ (.int .i64 (n:Int))) ((Kp.refl (One l) _).setCell (p:=⟨l,4,none⟩) (.inl rfl) _) (by simpa using hcl);obtain ⟨G2,hL2,hG2,hK2⟩:=Qka.stop;have Jgs:=Dc.out.lt hll;have hW2:=HW1.out.Q1x hL2 hG2 hK2
    have Yf:=zz (show Zu w d l P F G (J0 P s st).2.1 (J0 P s st).2.2 (w1.setCell ⟨l,4,none⟩ (.int .i64 (n:Int)))/\Qia (J0 P s st).1 (.returned (.tuple #[])) from by
     rw [HQ.out];simp only
     rw [if_pos (by rw [<-Q2b.out];exact hz)];refine ⟨⟨F1,G2,?_,Qhx.out,λk hk=>(hG2 k hk).imp id λh=>Nat.le_trans Dc.out.size h,?_⟩, .inl ⟨by rw [<-Q2b.out];exact hz,rfl⟩⟩
     ·rw [<-HE.out] at hW2;rw [Qxc.out];exact hW2
     ·exact (Dc.out.mono (T:=V2 F G) λ_ _ x=> .inl x).trans hK2 λi _ x=> .inr x)
    clear Qb5 Qpx hcl Qka hL2 hG2 hK2 hW2 hnl g3 g4 Jbb;go_wp2_with fail
    exact bodyPost_end (results_none rfl _ _ _) rfl Yf.out
   ·refine ⟨rfl,?_⟩;rw [HQ.out];simp only
    rw [if_neg (by rw [<-Q2b.out];exact hz)];exact ⟨⟨F1,G,HW1.out,Qhx.out,Je.refl _ _,Dc.out.mono λ_ _ x=> .inl x⟩, .inr ⟨by rw [<-Q2b.out];exact hz,by rw [<-Q2b.out]⟩⟩
 ·have hsy:J0 P s st=(0,s,st):=by
   unfold J0;rw [if_neg (by rw [<-hy,hnl];exact hlt)]
  have e1:decide ((y:Int)<(n:Int))=false:=by rw [decide_eq_false_iff_not];omega
  have Q6g:=zz hsy;clear h hC hE Q0c Ku hsy hn hnl hy hne c0 c2 fr;go_enter Tryz.func185,Tryz.ntmps185
  go_upto_region 0 with fail
  refine zD No [0,0,0,0,0,0,0,0,1,0] [0,1,2,3,4,5,6,7,8,9] ?_;repeat (first|refine zA ?_|refine zB ?_|refine zC ?_)
  refine Qa (λnq=>?_);go_wp2_with fail
  refine bodyPost_end (results_none rfl _ _ _) rfl ?_;rw [Q6g.out];exact ⟨Zu.here H.out ((Kp.refl No w).drewN nq), .inl ⟨rfl,rfl⟩⟩
end Go.Proofs.YtgnkmjeoaoongaaGreatDoor
