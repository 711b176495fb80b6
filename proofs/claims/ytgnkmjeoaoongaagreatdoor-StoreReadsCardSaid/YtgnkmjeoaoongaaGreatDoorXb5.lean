/-
  RRead, RLogM, RSync, XSync, WRdNum, SChain.
-/
import Derived.Test.YtgnkmjeoaoongaaGreatDoorXb4
import Derived.Test.YtgnkmjeoaoongaaGreatDoorXb2
import Derived.Test.YtgnkmjeoaoongaaGreatDoorXb3
set_option maxRecDepth 100000
set_option maxHeartbeats 4000000
namespace Go.Proofs.YtgnkmjeoaoongaaGreatDoor
open Go.RowKit Go.Mer
def Oz (w:World) (s:Qu) (name:ByteArray) (e:Ending) (w':World):Prop:=
 ∃v,e= .returned (.tuple #[v, .int .i64 (Dz s.files name).2])/\Own w' 5 1 v (Dz s.files name).1.length (u8s (Dz s.files name).1)/\Kp No w w'/\(∀g,v.ownBlock=some g->w.heap.size<=g)
theorem Q1l (w:World) (r:Nat) (s:Qu) (G:Nat->Prop) (h:Di w r s G) (name:ByteArray):
  Calls Tryz.prog 167 #[.pointer (some ⟨r,0,none⟩), .string name] w (Oz w s name):=by
 obtain ⟨rv,L,hR,hp,Ub⟩:=Yi.start h;have HR:=zz hR;have HP:=zz hp;have hs:=Ii w r s.room (leftOf s.Zg) rv L hR.c name;have Ls:=zz hs;clear hs hR hp Ub h;go_enter Tryz.func167,Tryz.ntmps167
 go_wp2_with fail
 refine Ls.out.mono ?_;rintro e w3 ⟨i,b,rfl,hsp,hk3⟩;have HR3:=zz (HR.out.c.Q5 hk3);have Zj:=zz hk3;clear hk3 Ls;cases hsp with
 |no L1 L2 hL h1 h2=>
  have HE:=zz (show Dz s.files name=([],7) by
   unfold Dz;rw [<-Zb HP.out HR3.out.sorted.keys,hL,Q7x h1 h2])
  clear hL h1 h2;go_wp2_with fail
  go_ret2
  unfold Oz;rw [HE.out];exact ⟨.slice none 0 0,rfl,Own.nil _ _ _,Zj.out,λg hg=>by cases hg⟩
 |is L1 f L2 hL hk=>
  subst hL
  have HE:=zz (show Dz s.files name=(f.data,0) by
   unfold Dz;rw [<-Zb HP.out HR3.out.sorted.keys,<-hk,Q7w HR3.out.sorted rfl])
  obtain ⟨g,off,Y5,n,hn,hlt,hcap,hgr,rfl,hcells⟩:=HR3.out.at_;obtain ⟨i,hi⟩: ∃i,i=L1.length:=⟨_,rfl⟩;rw [<-hi] at hlt⊢;obtain ⟨c1,d0,d1,d2,fr,fg,rl,gl⟩:=hcells w3 zK;rw [<-hi] at d0 d1 d2;have HF:=zz (HR3.out.files f (by simp))
  have hmm:f.data.length<=1073741824:=by
   have h1:=HR3.out.fits;have h2:=HR3.out.roomy;rw [Ur] at h1;omega
  obtain ⟨a7,c7,W7,hrun,Qdy,Q18,hb7⟩:=Qbl w3 f.data f.a f.cap HF.out.1.rd' (by omega);have Ma:=zz hrun;have Qjy:=zz Qdy;have Q3j:=zz Q18;have Is:=zz hb7;clear hn hi hcells hk hrun Qdy Q18 hb7;go_wp2_with (at_builtin;refine wpList_append_run rfl rfl rfl rfl Ma.out ?_)
  go_ret2
  unfold Oz;rw [HE.out];exact ⟨_,rfl,Qjy.out,Zj.out.trans_same Q3j.out,λg hg=>Nat.le_trans Zj.out.size (Is.out g hg)⟩
theorem Qll:(Tryz.prog.info? 9).map (λi=>((i.zero.map λz=>z.cells.size),i.size,i.bytes))=some (some 1,1,16):=by kernel_rfl
def Gr (f:Qj):List Value:=[.string f.name]
theorem Q2x (f:Qj): ∀u∈Gr f,u.oneCell'=true:=by
 intro u hu;simp only [Gr,List.mem_cons,List.not_mem_nil,or_false] at hu;subst hu;rfl
theorem Qc7 (L:List Qj):L.flatMap Gr=(L.map (·.name)).map Value.string:=by
 induction L with
 |nil=>rfl
 |cons f L ih=>rw [List.flatMap_cons,ih];rfl
def Q7i (w:World) (s:Qu) (e:Ending) (w':World):Prop:=
 ∃(N:List ByteArray) (a:Option Addr) (c:Nat),e= .returned (.slice a N.length c)/\N.Pairwise Ug/\N.Perm (s.files.map (·.1))/\Rd w' w'.heap.size a (N.map Value.string)/\Kp No w w'
theorem A9 (w:World) (r:Nat) (s:Qu) (G:Nat->Prop) (h:Di w r s G):
  Calls Tryz.prog 171 #[.pointer (some ⟨r,0,none⟩)] w (Q7i w s):=by
 obtain ⟨rv,L,hR,hp,Ub⟩:=Yi.start h;obtain ⟨ra,Y5,Q70,hrc,hrd⟩:=hR.c.row.rd;have Lj:=zz (show ∀W,Kp No w W->W.cell? ⟨r,1,none⟩=some (.slice ra L.length Y5)/\r<W.heap.size from λW hW=>⟨by rw [Q0 (hW.get hR.c.cell λx=>x),Q70];rfl,Q3 (hW.get hR.c.cell λx=>x)⟩);have M8:=zz hrd;have HP:=zz hp;have HS:=zz hR.c.sorted;have hfew:=hR.c.few;clear hR hp Ub h hrd Q70;go_enter Tryz.func171,Tryz.ntmps171
 go_wp2_with fail
 rename World=>w0;go_loopw [3,4] (λs i wr=> ∃(j:Nat) (a:Option Addr) (c:Nat),j<=L.length/\i= .int .i64 (j:Int)/\s= .slice a j c/\Hid (Qq 9 1 Gr w0 wr (.slice a j c) j (L.take j))) (λ_ i _=>L.length-(intOf i).toNat)
 case atStart=>exact ⟨0,none,0,Nat.zero_le _,rfl,rfl,zz (by simpa using Qq.nil 9 1 Gr w0)⟩
 case round=>
  obtain ⟨j,ao,co,hj,rfl,rfl,HR⟩:=hrel;have Dp:=zz HR.out.2.2.2;obtain ⟨c1,hrl⟩:=Lj.out _ Dp.out;by_cases hlt:j<L.length
  ·obtain ⟨g,off,rfl,l0⟩:=Ye (f:=Qj.cells) (c:=3) Qj.Y9 (by decide) M8.out hlt;have d0:=l0 _ Dp.out 0 _ rfl;rw [Nat.add_zero] at d0;have hgl:g<wr.heap.size:=World.block_lt_of_cell? wr _ d0;have HT:=zz (List.take_succ_eq_append_getElem hlt);obtain ⟨f,hf⟩: ∃f,f=L[j]:=⟨_,rfl⟩;rw [<-hf] at d0 HT;obtain ⟨W5,Dk⟩: ∃W,W=wr.alloc (.cells #[.string f.name] 9):=⟨_,rfl⟩;have k5:Kp No wr W5:=by rw [Dk];exact zK.alloc _
   have b5:W5.heap[wr.heap.size]?=some (.cells #[.string f.name] 9 (0,0)):=by rw [Dk];exact heap_alloc_new wr _
   obtain ⟨a6,c6,W6,hrun,hm,_⟩:=(HR.out.keep k5).app Tryz.underlying49 Qll Q2x [f] (Ew (f:=Gr) (x:=f) (λ_=>rfl) b5 rfl) rfl (by unfold maxLen;omega) (by omega);rw [<-HT.out] at hm;rw [Dk] at hrun;have Qjd:=zz hrun;have J72:=zz hm;clear l0 hf k5 b5 hrun hm Dk;go_wp2_with (at_builtin;refine wpList_append_run rfl rfl rfl rfl Qjd.out ?_)
   go_roundw
   case rel=>exact ⟨j+1,a6,c6,by omega,by go_num,rfl,J72⟩
   case measure=>simp [intOf];omega
  ·obtain rfl:j=L.length:=by omega
   have hm:=HR.out;rw [List.take_length] at hm;have HM:=zz hm;clear hm hlt;go_wp2_with fail
   go_ret
   refine ⟨L.map (·.name),ao,co,by simp,List.pairwise_map.2 (show L.Pairwise λa b=>Ug a.name b.name from HS.out),?_,?_,HM.out.2.2.2⟩
   ·have:=HP.out.map (·.1);rwa [Ia] at this
   ·have:=HM.out.2.1.rd';rwa [Qc7] at this
def Q2y (n:Nat):List Value:=[.int .i64 (n:Int)]
theorem Qhl (n:Nat):(Q2y n).length=1:=rfl
theorem Q5n (n:Nat): ∀u∈Q2y n,u.oneCell'=true:=by
 intro u hu;simp only [Q2y,List.mem_cons,List.not_mem_nil,or_false] at hu;subst hu;rfl
theorem Qaa:(Tryz.prog.info? 3).map (λi=>((i.zero.map λz=>z.cells.size),i.size,i.bytes))=some (some 1,1,8):=by kernel_rfl
structure Y1 (w:World) (l d:Nat) (P:ByteArray) (sv ev:Value) (S:List Nat) (E:List Row) (synced:Nat) (dead:Bool):Prop where
 cell:w.heap[l]?=some (.cells #[.pointer (some ⟨d,0,none⟩), .string P,ev,sv, .int .i64 (synced:Int), .bool dead] 190 (0,0))
 Qk:Own w 3 1 sv S.length (S.flatMap Q2y)
 Qn:Own w 42 1 ev E.length (E.flatMap Mw)
 each: ∀r∈E,O0 w r
def Q21 (l:Nat) (sv ev:Value) (E:List Row):Nat->Prop:=λk=>k=l\/sv.ownBlock=some k\/ev.ownBlock=some k\/ ∃r∈E,r.val.ownBlock=some k
def Yl (w:World) (l d:Nat) (P:ByteArray) (st:J2) (G:Nat->Prop):Prop:=
 ∃sv ev E,Y1 w l d P sv ev (st.Qk.map (·.1)) E (st.synced+1) st.dead/\st.Qn=E.map Row.data/\(∀k,Q21 l sv ev E k->G k)/\ ∀k,G k->k<w.heap.size
section
variable {w w' W W':World} {l d:Nat} {P:ByteArray} {sv ev sv' ev':Value} {S S':List Nat} {E E':List Row} {synced Zt:Nat} {dead Uj:Bool} {G:Nat->Prop} {r:Row}
theorem Y1.keep {T:Nat->Prop} (h:Y1 w l d P sv ev S E synced dead) (hk:Kp T w w') (hT: ∀k,Q21 l sv ev E k-> ¬T k):Y1 w' l d P sv ev S E synced dead:=
 ⟨hk.get h.cell (hT l (.inl rfl)),h.Qk.keep hk λg hg=>hT g (.inr (.inl hg)),h.Qn.keep hk λg hg=>hT g (.inr (.inr (.inl hg))),λr hr=>(h.each r hr).keep hk λg hg=>hT g (.inr (.inr (.inr ⟨r,hr,hg⟩)))⟩
theorem Y1.Q5 (h:Y1 w l d P sv ev S E synced dead) (hk:Kp No w w'):Y1 w' l d P sv ev S E synced dead:=h.keep hk λ_ _ x=>x
theorem Y1.lt (h:Y1 w l d P sv ev S E synced dead): ∀k,Q21 l sv ev E k->k<w.heap.size:=by
 rintro k (rfl|hk|hk|⟨r,hr,hk⟩)
 ·exact Q3 h.cell
 ·exact h.Qk.lt k hk
 ·exact h.Qn.lt k hk
 ·exact (h.each r hr).1.lt k hk
theorem Yl.keep {T:Nat->Prop} {st:J2} (h:Yl w l d P st G) (hk:Kp T w w') (hT: ∀k,G k-> ¬T k):Yl w' l d P st G:=by
 obtain ⟨sv,ev,E,h1,h2,h3,h4⟩:=h;exact ⟨sv,ev,E,h1.keep hk (λk hf=>hT k (h3 k hf)),h2,h3,λk hf=>hk.lt (h4 k hf)⟩
theorem Yl.Q5 {st:J2} (h:Yl w l d P st G) (hk:Kp No w w'):Yl w' l d P st G:=h.keep hk λ_ _ x=>x
theorem Y1.Yv (h:Y1 w l d P sv ev S E synced dead) {g:Nat} (hg:sv.ownBlock=some g):g≠l/\ev.ownBlock≠some g/\ ∀r∈E,r.val.ownBlock≠some g:=by
 obtain ⟨cur,hc⟩:=h.Qk.type g hg;refine ⟨Q7 hc h.cell (by decide),λe=>?_,λr hr e=>?_⟩
 ·obtain ⟨cur',hc'⟩:=h.Qn.type g e;exact Q7 hc hc' (by decide) rfl
 ·obtain ⟨cur',hc'⟩:=(h.each r hr).1.type g e;exact Q7 hc hc' (by decide) rfl
theorem Y1.Xs (h:Y1 w l d P sv ev S E synced dead) {g:Nat} (hg:ev.ownBlock=some g):g≠l/\sv.ownBlock≠some g/\ ∀r∈E,r.val.ownBlock≠some g:=by
 obtain ⟨cur,hc⟩:=h.Qn.type g hg;refine ⟨Q7 hc h.cell (by decide),λe=>?_,λr hr e=>?_⟩
 ·obtain ⟨cur',hc'⟩:=h.Qk.type g e;exact Q7 hc hc' (by decide) rfl
 ·obtain ⟨cur',hc'⟩:=(h.each r hr).1.type g e;exact Q7 hc hc' (by decide) rfl
theorem Y1.row_ne (h:Y1 w l d P sv ev S E synced dead) (hr:r∈E) {g:Nat} (hg:r.val.ownBlock=some g):g≠l:=by
 obtain ⟨cur,hc⟩:=(h.each r hr).1.type g hg;exact Q7 hc h.cell (by decide)
theorem Y1.turn (h:Y1 w l d P sv ev S E synced dead) (hk:Kp (One l) w w') (hc:w'.heap[l]?=some (.cells #[.pointer (some ⟨d,0,none⟩), .string P,ev,sv, .int .i64 (Zt:Int), .bool Uj] 190 (0,0))):Y1 w' l d P sv ev S E Zt Uj:=
 ⟨hc,h.Qk.keep hk λg hg (e:g=l)=>(h.Yv hg).1 e,h.Qn.keep hk λg hg (e:g=l)=>(h.Xs hg).1 e,λr hr=>(h.each r hr).keep hk λg hg (e:g=l)=>h.row_ne hr hg e⟩
structure Yk (w W:World) (l d:Nat) (P:ByteArray) (sv ev:Value) (S:List Nat) (E:List Row) (synced:Nat) (dead:Bool) (G:Nat->Prop):Prop where
 c:Y1 W l d P sv ev S E synced dead
 foot: ∀k,Q21 l sv ev E k->G k\/w.heap.size<=k
 kp:Kp G w W
theorem Yk.start {st:J2} (h:Yl w l d P st G): ∃sv ev E,Yk w w l d P sv ev (st.Qk.map (·.1)) E (st.synced+1) st.dead G/\st.Qn=E.map Row.data/\ ∀k,G k->k<w.heap.size:=by
 obtain ⟨sv,ev,E,h1,h2,h3,h4⟩:=h;exact ⟨sv,ev,E,⟨h1,λk hk=> .inl (h3 k hk),Kp.refl _ _⟩,h2,h4⟩
theorem Yk.stop {S:List (Nat×Nat)} {k:Nat} (h:Yk w W l d P sv ev (S.map (·.1)) E k dead G) (hk:k=synced+1): ∃G',Yl W l d P ⟨E.map Row.data,S,synced,dead⟩ G'/\Qv G G' w/\Kp G w W:=
 ⟨Q21 l sv ev E,⟨sv,ev,E,by subst hk;exact h.c,rfl,λ_ x=>x,h.c.lt⟩,h.foot,h.kp⟩
theorem Yk.step {T:Nat->Prop} (h:Yk w W l d P sv ev S E synced dead G) (hk:Kp T W W') (hT: ∀k,T k->Q21 l sv ev E k\/W.heap.size<=k) (hc:Y1 W' l d P sv' ev' S' E' Zt Uj) (hf: ∀k,Q21 l sv' ev' E' k->Q21 l sv ev E k\/W.heap.size<=k):
  Yk w W' l d P sv' ev' S' E' Zt Uj G:=by
 have hsz:=h.kp.size;refine ⟨hc,λk hk'=>?_,h.kp.trans hk λi hi hs=>?_⟩
 ·rcases hf k hk' with h1|h1
  ·exact h.foot k h1
  ·exact .inr (Nat.le_trans hsz h1)
 ·rcases hT i hs with h1|h1
  ·rcases h.foot i h1 with h2|h2
   ·exact h2
   ·omega
  ·omega
theorem Yk.no (h:Yk w W l d P sv ev S E synced dead G) (hk:Kp No W W'):Yk w W' l d P sv ev S E synced dead G:=h.step hk (λ_ x=>x.elim) (h.c.Q5 hk) λ_ x=> .inl x
theorem Yk.J08 (h:Yk w W l d P sv ev S E synced dead G) (hr:O0 W r) (hrf: ∀g,r.val.ownBlock=some g->G g\/w.heap.size<=g) (hk:Kp (λk=>ev.ownBlock=some k) W W') (ho:Own W' 42 1 ev' (E++[r]).length ((E++[r]).flatMap Mw)) (hf:ev'.ownBlock=ev.ownBlock\/ ∃g,ev'.ownBlock=some g/\W.heap.size<=g):
  Yk w (W'.setCell ⟨l,2,none⟩ ev') l d P sv ev' S (E++[r]) synced dead G:=by
 have hc:=h.c;have hcell:=hk.get hc.cell λe=>(hc.Xs e).1 rfl;have hs:Kp (One l) W' (W'.setCell ⟨l,2,none⟩ ev'):=(Kp.refl (One l) _).setCell (p:=⟨l,2,none⟩) (.inl rfl) _;have hll:=Q3 hc.cell
 have hrn: ∀g,r.val.ownBlock=some g->g≠l/\ev.ownBlock≠some g:=λg hg=>by
  obtain ⟨cur,Uu⟩:=hr.1.type g hg;refine ⟨Q7 Uu hc.cell (by decide),λe=>?_⟩;obtain ⟨cur',hc'⟩:=hc.Qn.type g e;exact Q7 Uu hc' (by decide) rfl
 have hall:Kp (λk=>k=l\/ev.ownBlock=some k) W (W'.setCell ⟨l,2,none⟩ ev'):=(hk.mono λ_ _ x=> .inr x).trans hs λi _ (e:i=l)=> .inl e;have hsz:=h.kp.size
 have hE: ∀q∈E++[r],O0 (W'.setCell ⟨l,2,none⟩ ev') q:=λq hq=>by
  rcases List.mem_append.1 hq with hq|hq
  ·refine (hc.each q hq).keep hall λg hg hT=>?_;rcases hT with hT|hT
   ·exact hc.row_ne hq hg hT
   ·exact (hc.Xs hT).2.2 q hq hg
  ·rw [List.mem_singleton] at hq;subst hq;exact hr.keep hall λg hg hT=>hT.elim (hrn g hg).1 (hrn g hg).2
 have hfo: ∀k,Q21 l sv ev' (E++[r]) k->G k\/w.heap.size<=k:=by
  rintro k (rfl|hk'|hk'|⟨q,hq,hk'⟩)
  ·exact h.foot _ (.inl rfl)
  ·exact h.foot _ (.inr (.inl hk'))
  ·rcases hf with e|⟨g,e,hg⟩
   ·exact h.foot _ (.inr (.inr (.inl (e▸hk'))))
   ·rw [e] at hk';injection hk' with hk';right;omega
  ·rcases List.mem_append.1 hq with hq|hq
   ·exact h.foot _ (.inr (.inr (.inr ⟨q,hq,hk'⟩)))
   ·rw [List.mem_singleton] at hq;subst hq;exact hrf k hk'
 refine ⟨⟨by have:=Qh hcell 2 ev';simpa using this,hc.Qk.keep hall λg hg hT=>hT.elim (hc.Yv hg).1 (hc.Yv hg).2.1,?_,hE⟩,hfo,h.kp.trans hall λi hi hT=>?_⟩
 ·refine ho.keep hs λg hg (e:g=l)=>?_;rcases hf with e'|⟨g',e',hg'⟩
  ·exact (hc.Xs (e'▸hg)).1 e
  ·rw [e'] at hg;injection hg with hg;omega
 ·rcases hT with rfl|hT
  ·rcases h.foot _ (.inl rfl) with h1|h1
   ·exact h1
   ·omega
  ·rcases h.foot _ (.inr (.inr (.inl hT))) with h1|h1
   ·exact h1
   ·omega
theorem Yk.Qym (h:Yk w W l d P sv ev S E synced dead G) (hk:Kp (λk=>sv.ownBlock=some k) W W') (ho:Own W' 3 1 sv' S'.length (S'.flatMap Q2y)) (hf:sv'.ownBlock=sv.ownBlock\/ ∃g,sv'.ownBlock=some g/\W.heap.size<=g):
  Yk w (W'.setCell ⟨l,3,none⟩ sv') l d P sv' ev S' E synced dead G:=by
 have hc:=h.c;have hcell:=hk.get hc.cell λe=>(hc.Yv e).1 rfl;have hs:Kp (One l) W' (W'.setCell ⟨l,3,none⟩ sv'):=(Kp.refl (One l) _).setCell (p:=⟨l,3,none⟩) (.inl rfl) _;have hll:=Q3 hc.cell;have hall:Kp (λk=>k=l\/sv.ownBlock=some k) W (W'.setCell ⟨l,3,none⟩ sv'):=(hk.mono λ_ _ x=> .inr x).trans hs λi _ (e:i=l)=> .inl e;refine h.step hall (λk hT=>hT.elim (λe=> .inl (.inl e)) λe=> .inl (.inr (.inl e))) ⟨by have:=Qh hcell 3 sv';simpa using this,?_,hc.Qn.keep hall λg hg hT=>hT.elim (hc.Xs hg).1 (hc.Xs hg).2.1,λq hq=>(hc.each q hq).keep hall λg hg hT=>hT.elim (hc.row_ne hq hg) λe=>(hc.Yv e).2.2 q hq hg⟩ ?_
 ·refine ho.keep hs λg hg (e:g=l)=>?_;rcases hf with e'|⟨g',e',hg'⟩
  ·exact (hc.Yv (e'▸hg)).1 e
  ·rw [e'] at hg;injection hg with hg;omega
 ·rintro k (rfl|hk'|hk'|hk')
  ·exact .inl (.inl rfl)
  ·rcases hf with e|⟨g,e,hg⟩
   ·exact .inl (.inr (.inl (e▸hk')))
   ·rw [e] at hk';injection hk' with hk';right;omega
  ·exact .inl (.inr (.inr (.inl hk')))
  ·exact .inl (.inr (.inr (.inr hk')))
theorem Yk.flag (h:Yk w W l d P sv ev S E synced dead G) (hk:Kp (One l) W W') (hc:W'.heap[l]?=some (.cells #[.pointer (some ⟨d,0,none⟩), .string P,ev,sv, .int .i64 (Zt:Int), .bool Uj] 190 (0,0))):Yk w W' l d P sv ev S E Zt Uj G:=
 h.step hk (λk (e:k=l)=> .inl (.inl e)) (h.c.turn hk hc) λ_ x=> .inl x
end
theorem Qch (w:World) (r:Nat) (s:Qu) (G:Nat->Prop) (h:Di w r s G) (name:ByteArray):
  Calls Tryz.prog 178 #[.pointer (some ⟨r,0,none⟩), .string name] w (Qf1 w r G (L8 s name)):=by
 obtain ⟨rv,L,hR,hp,Ub⟩:=Yi.start h;obtain ⟨W1,hW1⟩: ∃W,W=w.alloc (.cells #[.string name] 9):=⟨_,rfl⟩;have k1:Kp No w W1:=by rw [hW1];exact zK.alloc _
 have hR1:=hR.no k1;have hm:=Q62 W1 r s.room (leftOf s.Zg) rv L hR1.c (some ⟨w.heap.size,0,none⟩) 1 [name] (by rw [hW1];exact De w name) (by simp);rw [show (if leftOf s.Zg=0 then (9:Int) else if ([name]:List ByteArray).all Jh=true then 0 else 1)=Q5i s.Zg [name] from rfl] at hm;have hq:=Bv s.Zg [name];obtain ⟨q,hq0⟩: ∃q,q=Q5i s.Zg [name]:=⟨_,rfl⟩;rw [<-hq0] at hm hq;have HM:=zz hm;have HQ:=zz hq;have HP:=zz hp;have HR1:=zz hR1;have HW1:=zz hW1;skip
 clear hm hq hp hR1 hW1 k1 hR Ub h hq0;go_enter Tryz.func178,Tryz.ntmps178
 go_wp2_with fail
 rw [<-HW1.out];refine HM.out.mono ?_;rintro e w2 ⟨rfl,hk2⟩;have HR2:=zz (HR1.out.no hk2);clear hk2 HM;rcases HQ.out with ⟨h0,rfl⟩|⟨h0,hns,rfl⟩|⟨h0,hns,rfl⟩
 ·
  have H0:=zz h0;clear h0;go_wp2_with fail
  go_ret
  rw [L8,Qnt H0.out];exact HR2.out.stop HP.out
 ·
  have H0:=zz h0;have Qeh:=zz hns;clear h0 hns;go_wp2_with fail
  go_ret
  rw [L8,Qns H0.out Qeh.out];exact HR2.out.stop HP.out
 have H0:=zz h0;have Qeh:=zz hns;clear h0 hns HQ HR1 HW1;have hs:=Ii w2 r s.room (leftOf s.Zg) rv L HR2.out.c name;have Ls:=zz hs;clear hs;go_wp2_with fail
 refine Ls.out.mono ?_;rintro e w3 ⟨i,b,rfl,hsp,hk3⟩;have HR3:=zz (HR2.out.no hk3);clear hk3 Ls HR2;cases hsp with
 |no L1 L2 hL h1 h2=>
  have HE:=zz (show F8 s name=7 by
   unfold F8;rw [if_pos];rw [<-Zb HP.out HR3.out.c.sorted.keys,hL];exact Q7x h1 h2)
  clear hL h1 h2;go_wp2_with fail
  go_ret
  rw [L8,Qfo H0.out Qeh.out (by rw [HE.out];decide),HE.out];exact HR3.out.stop HP.out
 |is L1 f L2 hL hk=>
  subst hL;obtain ⟨g,off,Y5,n,hn,hlt,hcap,hgr,rfl,hcells⟩:=HR3.out.c.at_;have hga:Qo s.files name=some ⟨f.data,f.lasts⟩:=by rw [<-Zb HP.out HR3.out.c.sorted.keys,<-hk];exact Q7w HR3.out.c.sorted rfl
  have HE:=zz (show F8 s name=0 by unfold F8;rw [if_neg (by rw [hga];simp)])
  have Qnl:Hid ((Z5 (L1++⟨f.name,f.a,f.cap,f.data,f.data.length⟩::L2)).Perm (Fs s.files name)):=zz (by
   unfold Fs;rw [hga,<-hk];exact Q1i HR3.out.c.sorted HP.out rfl)
  have Q0b:=zz hcells;have HN:=zz hn;obtain ⟨i,hi⟩: ∃i,i=L1.length:=⟨_,rfl⟩;rw [<-hi] at hlt⊢;have HI:=zz hi;obtain ⟨c1,d0,d1,d2,fr,fg,rl,gl⟩:=hcells w3 zK;rw [<-hi] at d0 d1 d2;obtain ⟨m,hm⟩: ∃m,m=f.data.length:=⟨_,rfl⟩;rw [<-hm] at d1
  have hmm:m<=1073741824:=by
   have h1:=HR3.out.c.fits;have h2:=HR3.out.c.roomy;rw [Ur] at h1;omega
  have Qb1:=zz hm;have HF:=zz (HR3.out.c.files f (by simp));have hfit:Jl (Z5 (L1++⟨f.name,f.a,f.cap,f.data,f.data.length⟩::L2))<=s.room:=by have:=HR3.out.c.fits;rw [Ur] at this⊢;exact this
  have Q3q:=zz hfit;clear hga hn hi hcells hm hfit hk;go_wp2_with fail
  refine zE [0,0,0,1,0,0,0,0,1,0,0,0,1,1,0,0,2] [0,1,2,4,5,6,7,9,3,8,10,11,12,13,14,15,16] ?_;repeat (first|refine zA ?_|refine zB ?_|refine zC ?_)
  refine Q4 rfl rfl (λn1=>?_);have J7u:(w3.drewN n1).cell? ⟨g,off+i*3+2,none⟩=some (.int .i64 (f.lasts:Int)):=d2;have J80:(w3.drewN n1).frozen? ⟨g,off+i*3+2,none⟩=false:=fg _;go_wp2_with fail
  intro nq;obtain ⟨W4,Ng⟩: ∃W,W=(w3.drewN n1).setCell ⟨g,off+i*3+2,none⟩ (.int .i64 (m:Int)):=⟨_,rfl⟩;have Qa4:=HR3.out.setAt HN.out ((Kp.refl No w3).drewN n1) 2 (.int .i64 (m:Int)) (by omega) ⟨f.name,f.a,f.cap,f.data,f.data.length⟩ (by rw [Qb1.out];rfl) rfl ⟨HF.out.1.drewN n1,Nat.le_refl _⟩ (λ_ h=> .inl h) Q3q.out;rw [<-HI.out,<-Ng] at Qa4;have HRn:=zz (Qa4.no ((Kp.refl No W4).drewN nq));rw [<-Ng];obtain ⟨V,hV⟩: ∃W,W=W4.drewN nq:=⟨_,rfl⟩;rw [<-hV] at HRn⊢;clear Ng Qa4 c1 d0 d1 d2 J7u fr fg J80 rl gl hV;have hd:=Ac V r s.room (leftOf s.Zg) _ _ HRn.out.c;rw [<-Ic H0.out] at hd;have HD:=zz hd;clear hd;go_wp2_with fail
  refine HD.out.mono ?_;rintro e wd ⟨rfl,hcd,hkd⟩;have Qtw:=zz (HRn.out.L4 hcd hkd);clear hcd hkd HD;go_wp2_with fail
  go_ret
  rw [L8,Qfn H0.out Qeh.out HE.out];exact Yi.stop (s:={s with Zg:=s.Zg.map (· - 1),files:=_}) Qtw.out Qnl.out
structure N9 (w:World) (d l:Nat) (P:ByteArray) (s:Qu) (st:J2) (F G:Nat->Prop):Prop where
 disk:Di w d s F
 log:Yl w l d P st G
 sep: ∀k,F k-> ¬G k
def Y2 (w:World) (d l:Nat) (P:ByteArray) (F G:Nat->Prop) (s':Qu) (st':J2) (w':World):Prop:=
 ∃F' G',N9 w' d l P s' st' F' G'/\Qv F F' w/\Qv G G' w/\Kp (Xp F G) w w'
theorem Di.lt {w:World} {d:Nat} {s:Qu} {F:Nat->Prop} (h:Di w d s F): ∀k,F k->k<w.heap.size:=by
 obtain ⟨_,_,_,_,_,h⟩:=h;exact h
theorem Yl.lt {w:World} {l d:Nat} {P:ByteArray} {st:J2} {G:Nat->Prop} (h:Yl w l d P st G): ∀k,G k->k<w.heap.size:=by
 obtain ⟨_,_,_,_,_,_,hG⟩:=h;exact hG
theorem N9.Av {w w':World} {d l:Nat} {P:ByteArray} {s s':Qu} {st:J2} {F G F':Nat->Prop} (h:N9 w d l P s st F G) (hD:Di w' d s' F') (hF:Qv F F' w) (hk:Kp F w w'):N9 w' d l P s' st F' G:=
 ⟨hD,h.log.keep hk λk hg hf=>h.sep k hf hg,λk hf hg=>by
  rcases hF k hf with h1|h1
  ·exact h.sep k h1 hg
  ·have:=h.log.lt k hg;omega⟩
theorem N9.Aw {w w':World} {d l:Nat} {P:ByteArray} {s:Qu} {st st':J2} {F G G':Nat->Prop} (h:N9 w d l P s st F G) (hL:Yl w' l d P st' G') (hG:Qv G G' w) (hk:Kp G w w'):N9 w' d l P s st' F G':=
 ⟨h.disk.keep hk λk hf hg=>h.sep k hf hg,hL,λk hf hg=>by
  rcases hG k hg with h1|h1
  ·exact h.sep k hf h1
  ·have:=h.disk.lt k hf;omega⟩
theorem N9.no {w w':World} {d l:Nat} {P:ByteArray} {s:Qu} {st:J2} {F G:Nat->Prop} (h:N9 w d l P s st F G) (hk:Kp No w w'):N9 w' d l P s st F G:=⟨h.disk.Q5 hk,h.log.Q5 hk,h.sep⟩
theorem Y2.here {w w':World} {d l:Nat} {P:ByteArray} {s:Qu} {st:J2} {F G:Nat->Prop} (h:N9 w d l P s st F G) (hk:Kp No w w'):Y2 w d l P F G s st w':=⟨F,G,h.no hk,Qv.refl _ _,Qv.refl _ _,Kp.of_no hk⟩
theorem Y2.trans {w a b:World} {d l:Nat} {P:ByteArray} {s1 s2:Qu} {st1 st2:J2} {F G:Nat->Prop} (h: ∃F' G',N9 a d l P s1 st1 F' G'/\Qv F F' w/\Qv G G' w/\Kp (Xp F G) w a/\Y2 a d l P F' G' s2 st2 b):Y2 w d l P F G s2 st2 b:=by
 obtain ⟨F',G',h1,h2,h3,h4,F2,G2,k1,k2,k3,k4⟩:=h;refine ⟨F2,G2,k1,h2.trans k2 h4.size,h3.trans k3 h4.size,h4.trans k4 λi hi hb=>?_⟩;rcases hb with hb|hb
 ·rcases h2 i hb with x|x
  ·exact .inl x
  ·omega
 ·rcases h3 i hb with x|x
  ·exact .inr x
  ·omega
theorem Y1.cells {w:World} {l d:Nat} {P:ByteArray} {sv ev:Value} {S:List Nat} {E:List Row} {synced:Nat} {dead:Bool} (h:Y1 w l d P sv ev S E synced dead):
  (∀W,Kp No w W->W.cell? ⟨l,0,none⟩=some (.pointer (some ⟨d,0,none⟩)))/\(∀W,Kp No w W->W.cell? ⟨l,1,none⟩=some (.string P))/\(∀W,Kp No w W->W.cell? ⟨l,2,none⟩=some ev)/\(∀W,Kp No w W->W.cell? ⟨l,3,none⟩=some sv)/\
   (∀W,Kp No w W->W.cell? ⟨l,4,none⟩=some (.int .i64 (synced:Int)))/\(∀W,Kp No w W->W.cell? ⟨l,5,none⟩=some (.bool dead))/\ ∀W,Kp No w W-> ∀i,W.frozen? ⟨l,i,none⟩=false:=
 ⟨λW hW=>by rw [Q0 (h.Q5 hW).cell];rfl,λW hW=>by rw [Q0 (h.Q5 hW).cell];rfl,λW hW=>by rw [Q0 (h.Q5 hW).cell];rfl,λW hW=>by rw [Q0 (h.Q5 hW).cell];rfl,
  λW hW=>by rw [Q0 (h.Q5 hW).cell];rfl,λW hW=>by rw [Q0 (h.Q5 hW).cell];rfl,λW hW i=>Qc (h.Q5 hW).cell i⟩
theorem Y1.Oi {w:World} {l d:Nat} {P:ByteArray} {sv ev:Value} {S1:List Nat} {z:Nat} {E:List Row} {synced:Nat} {dead:Bool} (h:Y1 w l d P sv ev (S1++[z]) E synced dead):
  ∃g off n cap,sv= .slice (some ⟨g,off,none⟩) n cap/\n=S1.length+1/\(n:Int)<=9223372036854775807/\g<w.heap.size/\ ∀W,Kp No w W->W.cell? ⟨g,off+S1.length,none⟩=some (.int .i64 (z:Int)):=by
 obtain ⟨sa,sc,rfl,hsc,Qlh⟩:=h.Qk.rd;obtain ⟨g,off,rfl,hg,hfz⟩:=h.Qk.place (by simp);obtain ⟨g',off',hg',hc⟩:=Ye Qhl (by decide) Qlh (k:=S1.length) (by simp);injection hg' with hg';injection hg' with e1 e2;subst e1;subst e2;have hget:(S1++[z])[S1.length]'(by simp)=z:=by simp
 rw [hget] at hc
 have hmx:(((S1++[z]).length:Nat):Int)<=9223372036854775807:=by
  obtain ⟨_,a',cap',hv',q1,q2,_⟩:=h.Qk;simp only [maxLen] at q2;omega
 refine ⟨g,off,_,sc,rfl,by simp,hmx,hg,λW hW=>?_⟩;have:=hc W hW 0 _ rfl;rwa [Nat.mul_one,Nat.add_zero] at this
theorem Qia (w:World) (r x:Nat) (P:ByteArray) (s:Qu) (st:J2) (F G:Nat->Prop) (h:N9 w r x P s st F G) (S1:List (Nat×Nat)) (z:Nat×Nat) (hsg:st.Qk=S1++[z]) (hP:P.size<=50) (hz:z.1<1000000):
  Calls Tryz.prog 196 #[.pointer (some ⟨x,0,none⟩)] w λe w'=>e= .returned (.int .i64 ((Dz s.files (Eh P z.1)).1.length:Int))/\Kp No w w':=by
 obtain ⟨sv,ev,E,hC,hE,Bd,Ub⟩:=h.log;rw [hsg,List.map_append,List.map_cons,List.map_nil] at hC;obtain ⟨sg,L5,sn,sc,rfl,hsn,Qlg,Q8h,G7⟩:=hC.Oi;obtain ⟨c0,c1,_,c3,_,_,_⟩:=hC.cells;have hll:=Q3 hC.cell;obtain ⟨m2,hm2⟩: ∃m2,m2=(S1.map (·.1)).length:=⟨_,rfl⟩;rw [<-hm2] at hsn G7;have hms:m2<sn:=by omega
 have hw3:(sn:Int)-1=(m2:Int):=by omega
 obtain ⟨zn,hzn⟩: ∃zn,zn=z.1:=⟨_,rfl⟩;rw [<-hzn] at G7 hz⊢;obtain ⟨dn,hdn⟩: ∃dn,dn=(Dz s.files (Eh P zn)).1.length:=⟨_,rfl⟩;rw [<-hdn];have J6n:=zz hdn;clear hdn;have Q04:=zz (λW=>Gs P (by omega) zn hz W);have M8:=zz h.disk;clear h hC hE Bd Ub hsg hm2 hsn hzn hz;go_enter Tryz.func196,Tryz.ntmps196
 go_upto_region 1 with fail
 refine zD No [0,0,0,0,0,0,0,0,0,0,0,0,0,0,0,0,1,0,0,0,2,2,0,0,0,0,0] [0,1,2,3,4,5,6,7,8,9,10,11,12,13,14,15,16,17,18,19,20,21,22,23,24,25,26] ?_;repeat (first|refine zA ?_|refine zB ?_|refine zC ?_)
 refine Q4 rfl rfl (λn1=>?_);have hc:=Q04.out (w.drewN n1);go_wp2_with fail
 with_reducible refine hc.mono ?_
 rintro e w1 ⟨rfl,hk1⟩;clear hc;go_wp2_with fail
 have Qqo:Kp No w w1:=hk1.of_drewN;refine ⟨Qqo,?_⟩;refine Q4 rfl rfl (λn2=>?_);have hc:=Q1l (w1.drewN n2) r s F (M8.out.Q5 (Qqo.drewN n2)) (Eh P zn);go_wp2_with fail
 with_reducible refine hc.mono ?_
 rintro e w2 ⟨v,rfl,ho,hk2,_⟩;obtain ⟨_,va,vc,rfl,_⟩:=id ho;clear hc ho;rw [<-J6n.out];go_wp2_with fail
 have Mn:Kp No w w2:=Qqo.trans_same hk2.of_drewN;refine ⟨Mn,?_⟩;repeat (first|refine zA ?_|refine zB ?_|refine zC ?_)
 refine Q6 (λnq=>?_);go_wp2_with fail
 go_ret
 exact ⟨rfl,Mn.drewN nq⟩
theorem Yl.dead {w:World} {r x:Nat} {P:ByteArray} {st:J2} {G:Nat->Prop} (h:Yl w x r P st G) (b:Bool):
  (∃z,w.cell? ⟨x,5,none⟩=some z)/\w.frozen? ⟨x,5,none⟩=false/\x<w.heap.size/\ ∃G',Yl (w.setCell ⟨x,5,none⟩ (.bool b)) x r P {st with dead:=b} G'/\Qv G G' w/\Kp G w (w.setCell ⟨x,5,none⟩ (.bool b)):=by
 obtain ⟨sv,ev,E,hrun,hE,_⟩:=Yk.start h;obtain ⟨_,_,_,_,_,c5,fr⟩:=hrun.c.cells;have hcl:=Qh hrun.c.cell 5 (.bool b);have hR2:=hrun.flag (Zt:=st.synced+1) (Uj:=b) (W':=w.setCell ⟨x,5,none⟩ (.bool b)) ((Kp.refl (One x) _).setCell (p:=⟨x,5,none⟩) (.inl rfl) _) (by simpa using hcl);obtain ⟨G2,hL2,hG2,hK2⟩:=hR2.stop rfl;rw [<-hE] at hL2;exact ⟨⟨_,c5 w zK⟩,fr w zK 5,Q3 hrun.c.cell,G2,hL2,hG2,hK2⟩
theorem N9.dead {w:World} {r x:Nat} {P:ByteArray} {s:Qu} {st:J2} {F G:Nat->Prop} (h:N9 w r x P s st F G) (b:Bool):
  (∃z,w.cell? ⟨x,5,none⟩=some z)/\w.frozen? ⟨x,5,none⟩=false/\x<w.heap.size/\Y2 w r x P F G s {st with dead:=b} (w.setCell ⟨x,5,none⟩ (.bool b)):=by
 obtain ⟨h1,h2,h3,G2,hL2,hG2,hK2⟩:=h.log.dead b;exact ⟨h1,h2,h3,F,G2,h.Aw hL2 hG2 hK2,Qv.refl _ _,hG2,hK2.mono λ_ _ x=> .inr x⟩
theorem Cz (w:World) (r x:Nat) (P:ByteArray) (s:Qu) (st:J2) (F G:Nat->Prop) (h:N9 w r x P s st F G) (hd:st.dead=false) (k:Int):
  Calls Tryz.prog 199 #[.pointer (some ⟨x,0,none⟩), .int .i64 k] w λe w'=>e= .returned (.int .i64 k)/\Y2 w r x P F G s {st with dead:=k !=6} w':=by
 obtain ⟨⟨z,Qom⟩,hf5,hl5,hfin⟩:=h.dead true;have H:=zz h;have Zv:=zz hfin;clear h hfin;by_cases hk:k=6
 ·subst hk
  have hst:({st with dead:=(6:Int) !=6}:J2)=st:=by
   have:((6:Int) !=6)=false:=rfl;rw [this,<-hd]
  rw [hst];go_enter Tryz.func199,Tryz.ntmps199
  go_wp2_with fail
  go_ret
  exact ⟨rfl,Y2.here H.out zK⟩
 ·have e1:(k==(6:Int))=false:=by rw [beq_eq_false_iff_ne];exact hk
  have e2:(k !=(6:Int))=true:=by rw [bne,e1];rfl
  rw [e2];go_enter Tryz.func199,Tryz.ntmps199
  go_wp2_with fail
  go_ret
  exact ⟨rfl,Zv.out⟩
def Q9n (P:ByteArray) (s:Qu) (st:J2):Prop:= ∀S1 z,st.Qk=S1++[z]->(Dz s.files (Eh P z.1)).1.length=z.2
def Y0 (x:Qd):Value:= .agg (Qg x).toArray
theorem Qc0 (v:Qf):
  (Jp v.m v.c=false/\Zx v=false)\/
  (Jp v.m v.c=true/\decide (0<=v.o)=false/\Zx v=false)\/
  (Jp v.m v.c=true/\decide (0<=v.o)=true/\decide (v.o<5)=false/\Zx v=false)\/
  (Jp v.m v.c=true/\decide (0<=v.o)=true/\decide (v.o<5)=true/\(decide ((v.val.length:Int)<=1024)=false/\decide (v.val.length<=1024)=false)/\Zx v=false)\/
  (Jp v.m v.c=true/\decide (0<=v.o)=true/\decide (v.o<5)=true/\(decide ((v.val.length:Int)<=1024)=true/\decide (v.val.length<=1024)=true)/\decide (0<=v.ttl)=false/\Zx v=false)\/
  (Jp v.m v.c=true/\decide (0<=v.o)=true/\decide (v.o<5)=true/\(decide ((v.val.length:Int)<=1024)=true/\decide (v.val.length<=1024)=true)/\decide (0<=v.ttl)=true/\decide (v.ttl<=281474976710655)=false/\Zx v=false)\/
  (Jp v.m v.c=true/\decide (0<=v.o)=true/\decide (v.o<5)=true/\(decide ((v.val.length:Int)<=1024)=true/\decide (v.val.length<=1024)=true)/\decide (0<=v.ttl)=true/\decide (v.ttl<=281474976710655)=true/\v.gone=false/\Zx v=true)\/
  (Jp v.m v.c=true/\decide (0<=v.o)=true/\decide (v.o<5)=true/\(decide ((v.val.length:Int)<=1024)=true/\decide (v.val.length<=1024)=true)/\decide (0<=v.ttl)=true/\decide (v.ttl<=281474976710655)=true/\v.gone=true/\(((v.val.length:Int)==0)=false/\(v.val.length==0)=false)/\Zx v=false)\/
  (Jp v.m v.c=true/\decide (0<=v.o)=true/\decide (v.o<5)=true/\(decide ((v.val.length:Int)<=1024)=true/\decide (v.val.length<=1024)=true)/\decide (0<=v.ttl)=true/\decide (v.ttl<=281474976710655)=true/\v.gone=true/\(((v.val.length:Int)==0)=true/\(v.val.length==0)=true)/\(v.ttl==0)=false/\Zx v=false)\/
  (Jp v.m v.c=true/\decide (0<=v.o)=true/\decide (v.o<5)=true/\(decide ((v.val.length:Int)<=1024)=true/\decide (v.val.length<=1024)=true)/\decide (0<=v.ttl)=true/\decide (v.ttl<=281474976710655)=true/\v.gone=true/\(((v.val.length:Int)==0)=true/\(v.val.length==0)=true)/\(v.ttl==0)=true/\Zx v=true):=by
 have hV:Zx v=(Jp v.m v.c&&decide (0<=v.o/\v.o<5/\v.val.length<=1024/\0<=v.ttl/\v.ttl<=281474976710655/\(v.gone=true->v.val.length=0/\v.ttl=0))):=rfl;rw [hV];cases h1:Jp v.m v.c with
 |false=>exact .inl ⟨rfl,rfl⟩
 |true=>
  right
  by_cases h2:0<=v.o
  ·right
   by_cases h3:v.o<5
   ·right
    by_cases h4:v.val.length<=1024
    ·have h4':(v.val.length:Int)<=1024:=by omega
     right
     by_cases h5:0<=v.ttl
     ·right
      by_cases h6:v.ttl<=281474976710655
      ·right
       cases h7:v.gone with
       |false=>left;simp [h2,h3,h4,h4',h5,h6]
       |true=>
        right
        by_cases h8:v.val.length=0
        ·right
         by_cases h9:v.ttl=0
         ·right;simp [h2,h3,h8,h9]
         ·left;simp [h2,h3,h5,h6,h8,h9]
        ·left
         have h8': ¬((v.val.length:Int)=0):=by omega
         simp [h2,h3,h4,h4',h5,h6,h8]
      ·left;simp [h2,h3,h4,h4',h5,h6]
     ·left;simp [h2,h3,h4,h4',h5]
    ·left
     have h4': ¬((v.val.length:Int)<=1024):=by omega
     simp [h2,h3,h4,h4']
   ·left;simp [h2,h3]
  ·left;simp [h2]
theorem Qkf (x:Qd) (w:World):Calls Tryz.prog 189 #[Y0 x] w λe w'=>e= .returned (.bool (Zx x.v))/\Kp No w w':=by
 obtain ⟨v,a,cap⟩:=x;have hcs:=Qc0 v;simp only
 obtain ⟨r,hr⟩: ∃r,r=Zx v:=⟨_,rfl⟩;rw [<-hr] at hcs⊢;unfold Y0 Qg Qd.sl;simp only
 clear hr;rcases hcs with ⟨b1,hr⟩|⟨b1,b2,hr⟩|⟨b1,b2,b3,hr⟩|⟨b1,b2,b3,⟨b4,Qsj⟩,hr⟩|⟨b1,b2,b3,⟨b4,Qsj⟩,b5,hr⟩|⟨b1,b2,b3,⟨b4,Qsj⟩,b5,b6,hr⟩|⟨b1,b2,b3,⟨b4,Qsj⟩,b5,b6,b7,hr⟩|⟨b1,b2,b3,⟨b4,Qsj⟩,b5,b6,b7,⟨b8,J4i⟩,hr⟩|⟨b1,b2,b3,⟨b4,Qsj⟩,b5,b6,b7,⟨b8,J4i⟩,b9,hr⟩|⟨b1,b2,b3,⟨b4,Qsj⟩,b5,b6,b7,⟨b8,J4i⟩,b9,hr⟩
 all_goals
  have HB:=zz b1;have HR:=zz hr;clear b1 hr;go_enter Tryz.func189,Tryz.ntmps189
  go_wp2_with fail
  first|(refine (Zn _ _ _ HB.out).mono ?_)|(refine (Z2 _ _ _ HB.out).mono ?_)
  rintro e w' ⟨rfl,hk⟩;have hk':Kp No w w':=(zK.alloc _).trans_same hk;have hc:=hk.get (heap_alloc_new w _) λx=>x;have c2:=Q0 hc 2;have c3:=Q0 hc 3;have c4:=Q0 hc 4;have c5:=Q0 hc 5;have hlt:=Q3 hc;simp at c2 c3 c4 c5
  clear hc hk;go_wp2_with fail
  go_ret
  exact ⟨by rw [HR.out];rfl,hk'⟩
def Om (a b:Qf):Int:=Q33 a.m a.c a.o b.m b.c b.o
theorem A5 (a b:Qf):Om a b<0↔C5 a b=true:=by
 rw [Ld];unfold Om Q33 Js Vv;repeat' split
 all_goals omega
theorem Qc9 (a b:Qf):Om a b=0↔(a.m=b.m/\a.c=b.c/\a.o=b.o):=by
 unfold Om Q33 Js Vv;repeat' split
 all_goals omega
theorem Cv (x y:Qd) (w:World):Calls Tryz.prog 191 #[Y0 x,Y0 y] w λe w'=>e= .returned (.int .i64 (Om x.v y.v))/\Kp No w w':=
 Qca x.v.m x.v.c x.v.o x.sl x.v.gone x.v.ttl y.v.m y.v.c y.v.o y.sl y.v.gone y.v.ttl w
theorem Xi (m c n d:Int):(Js m c n d<=0↔Z6 n d m c=false)/\(Js m c n d<0↔Z6 m c n d=true)/\(0<Js m c n d↔Z6 n d m c=true):=by
 rw [L6,L6,Ed];unfold Js;repeat' split
 all_goals omega
theorem Qam (v:Qf) (hv:Zx v=true) (m c:Int) (hm:m<=9223372036854775807):Hr v.m v.c v.gone v.ttl m c=Vr v m c:=by
 obtain ⟨⟨h1,h2,_,_⟩,_⟩:=Zo.1 hv;unfold Hr Vr;have h:=(Xi v.m v.c m c).1;cases hs:Z6 m c v.m v.c with
 |true=>
  have:decide (Js v.m v.c m c<=0)=false:=by
   rw [decide_eq_false_iff_not,h,hs];decide
  rw [this];rfl
 |false=>
  have e:decide (Js v.m v.c m c<=0)=true:=by
   rw [decide_eq_true_iff,h];exact hs
  rw [e];rw [Ed] at hs;rw [IntWalk.wrap64_in _ (by omega)];rfl
theorem Q0x (x:Qd) (hv:Zx x.v=true) (m c:Int) (hm:m<=9223372036854775807) (w:World):Calls Tryz.prog 134 #[Y0 x,Xo m c] w λe w'=>e= .returned (.bool (Vr x.v m c))/\Kp No w w':=by
 rw [<-Qam x.v hv m c hm];exact Qf2 x.v.m x.v.c x.v.o x.sl x.v.gone x.v.ttl m c w
theorem Cw (x:Qd) (w:World) (hx:x.rd w) (hl:x.v.val.length<=140737488355328):
  Calls Tryz.prog 116 #[Y0 x] w λe w'=> ∃y:Qd,y.v=x.v/\e= .returned (Y0 y)/\y.ok w'/\(∀g,y.sl.ownBlock=some g->w.heap.size<=g)/\Kp No w w':=by
 obtain ⟨v,a,cap⟩:=x;obtain ⟨hR,hc,_⟩:=hx;simp only at hR hc hl⊢
 unfold Y0 Qg Qd.sl;simp only
 obtain ⟨W2,hW2⟩: ∃W,W=(w.alloc (.cells #[.int .i64 v.m, .int .i64 v.c, .int .i64 v.o, .slice a v.val.length cap, .bool v.gone, .int .i64 v.ttl] 44)).alloc (.cells #[.int .i64 0, .int .i64 0, .int .i64 0, .slice none 0 0, .bool false, .int .i64 0] 44):=⟨_,rfl⟩;have k2:Kp No w W2:=by rw [hW2];exact (zK.alloc _).alloc _
 have b1:W2.heap[w.heap.size]?=some (.cells #[.int .i64 v.m, .int .i64 v.c, .int .i64 v.o, .slice a v.val.length cap, .bool v.gone, .int .i64 v.ttl] 44 (0,0)):=by rw [hW2];exact J6 (heap_alloc_new w _) _
 have b2:W2.heap[w.heap.size+1]?=some (.cells #[.int .i64 0, .int .i64 0, .int .i64 0, .slice none 0 0, .bool false, .int .i64 0] 44 (0,0)):=by rw [hW2];exact (congrArg (λk=>((w.alloc _).alloc _).heap[k]?) (by simp)).trans (heap_alloc_new (w.alloc _) _)
 have hcl:=D4 a cap v.val W2.heap.size W2 (Rd.kp hR k2) hl;obtain ⟨n,hn⟩: ∃n,n=v.val.length:=⟨_,rfl⟩;rw [<-hn] at hcl b1 hW2⊢;have c3:=Q0 b1 3;have hl1:=Q3 b1;simp at c3
 have HB:=zz (And.intro b1 b2);have Qz:=zz k2;have Q3g:=zz hcl;have HN:=zz hn;clear b1 b2 k2 hcl hn hR hc hl;go_enter Tryz.func116,Tryz.ntmps116
 go_wp2_with fail
 (try rw [<-hW2])
 clear hW2;have hc:=Q3g.out;with_reducible refine hc.mono ?_
 rintro e w3 ⟨u,rfl,ho,hk,hf⟩;obtain ⟨_,a1,c1,rfl,_⟩:=id ho;have b1:=hk.get HB.out.1 λx=>x;have b2:=hk.get HB.out.2 λx=>x;have f1:=Qc b1 3;have d3:=Q0 b1 3;have hl1:=Q3 b1;simp at d3
 have HB1:=zz b1;have HB2:=zz b2;have HO:=zz (And.intro ho (And.intro (λg hg=>Nat.le_trans Qz.out.size (hf g hg)) (Qz.out.trans_same hk)));clear ho hf hk b1 b2 hc Q3g c3 HB Qz;go_upto_region 2 with fail
 obtain ⟨W4,Ng⟩: ∃W,W=w3.setCell ⟨w.heap.size,3,none⟩ (.slice a1 n c1):=⟨_,rfl⟩;have k4:Kp (Mer.One w.heap.size) w3 W4:=by rw [Ng];exact (Kp.refl (Mer.One w.heap.size) _).setCell (p:=⟨w.heap.size,3,none⟩) (.inl (show Mer.One w.heap.size w.heap.size from rfl)) _
 have b4:=Qh HB1.out 3 (.slice a1 n c1);rw [<-Ng] at b4;have HR1:=zz (show W4.rangeAt w.heap.size 0 [.int .i64 v.m, .int .i64 v.c, .int .i64 v.o, .slice a1 n c1, .bool v.gone, .int .i64 v.ttl] from Qb b4 0 6);have HB4:=zz (k4.get HB2.out λe=>by have e:w.heap.size+1=w.heap.size:=e;omega);have Ox:=zz k4;rw [<-Ng];clear Ng k4 b4 f1 d3 hl1
 go_wp2_with (first
  |(refine Qe rfl 44 _ rfl w.heap.size 0 rfl _ _ HR1 Tryz.underlying44 rfl (by kernel_rfl) ?_)
  |(refine Zi rfl 44 _ _ rfl (w.heap.size+1) _ rfl rfl 44 _ HB4 (by kernel_rfl) (by rfl) (by rfl) ?_))
 obtain ⟨W5,Dk⟩: ∃W,W=W4.setRow (w.heap.size+1) #[.int .i64 v.m, .int .i64 v.c, .int .i64 v.o, .slice a1 n c1, .bool v.gone, .int .i64 v.ttl]:=⟨_,rfl⟩;have k5:Kp (Mer.One (w.heap.size+1)) W4 W5:=by rw [Dk];exact (Kp.refl (Mer.One (w.heap.size+1)) _).setRow (.inl (show Mer.One (w.heap.size+1) (w.heap.size+1) from rfl)) _
 have b5:=U7 (cs:= #[.int .i64 v.m, .int .i64 v.c, .int .i64 v.o, .slice a1 n c1, .bool v.gone, .int .i64 v.ttl]) HB4.out;rw [<-Dk] at b5;have d0:=Q0 b5 0;have d1:=Q0 b5 1;have d2:=Q0 b5 2;have d3:=Q0 b5 3;have d4:=Q0 b5 4;have d5:=Q0 b5 5;simp at d0 d1 d2 d3 d4 d5
 (try rw [<-Dk])
 have Qo6:Kp (λk=>k=w.heap.size\/k=w.heap.size+1) w3 W5:=(Ox.out.mono λ_ _ h=> .inl h).trans k5 λ_ _ h=> .inr h;refine bodyPost_ret (v:= .agg #[.int .i64 v.m, .int .i64 v.c, .int .i64 v.o, .slice a1 n c1, .bool v.gone, .int .i64 v.ttl]) (by simp [results,Tryz.results116,go_sem,d0,d1,d2,d3,d4,d5]) rfl ⟨⟨v,a1,c1⟩,rfl,?_,?_,?_,?_⟩
 ·rw [show n=_ from HN.out]
 ·have h:Own w3 5 1 (.slice a1 v.val.length c1) v.val.length (u8s v.val):=by rw [<-show n=_ from HN.out];exact HO.out.1
  exact h.keep Qo6 λg hg hS=>by
   obtain ⟨cur,Uu⟩:=h.type g hg;rcases hS with rfl|rfl
   ·exact Q7 Uu HB1.out (by decide) rfl
   ·exact Q7 Uu HB2.out (by decide) rfl
 ·intro g hg;rw [<-show n=_ from HN.out] at hg;exact HO.out.2.1 g hg
 ·exact HO.out.2.2.trans Qo6 λi hi hS=>by rcases hS with rfl|rfl<;>omega
end Go.Proofs.YtgnkmjeoaoongaaGreatDoor
