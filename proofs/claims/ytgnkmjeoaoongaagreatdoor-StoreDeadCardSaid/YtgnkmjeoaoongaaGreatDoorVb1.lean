/- store -/
import Derived.Test.YtgnkmjeoaoongaaGreatDoorVa9
set_option maxRecDepth 100000
set_option maxHeartbeats 2000000
namespace Go.Proofs.YtgnkmjeoaoongaaGreatDoor
open Go.RowKit Go.Mer
theorem Qh7 (L:List Qp) {j:Nat} (h:j<L.length):Jw (Zh (L.take (j+1)))=Jw (Zh (L.take j))+L[j].data.length:=by
 rw [List.take_succ_eq_append_getElem h];unfold Zh;rw [List.map_append,Vy];rfl
theorem Qrg (L:List Qp) (j:Nat):Jw (Zh (L.take j))<=Jw (Zh L):=by
 conv=>rhs;rw [<-List.take_append_drop j L]
 unfold Zh;rw [List.map_append,Vy];omega
theorem Qgp (w:World) (r room:Nat) (left:Int) (rv:Value) (L:List Qp) (h:RC w r room left rv L):
  Calls Tryz.prog 251 #[.pointer (some ⟨r,0,none⟩)] w λe w'=>e= .returned (.int .i64 (Jw (Zh L):Int))/\Kp No w w':=by
 obtain ⟨ra,Yp,rfl,hrc,hrd⟩:=h.row.rd;have Oy:=zz (show ∀W,Kp No w W->W.cell? ⟨r,1,none⟩=some (.slice ra L.length Yp)/\r<W.heap.size from λW hW=>⟨by rw [Q4 (hW.get h.cell λx=>x)];rfl,Q7 (hW.get h.cell λx=>x)⟩);have Ky:=zz hrd;have HB:=zz (show Jw (Zh L)<=1073741824 from Nat.le_trans h.fits h.roomy);have hfew:=h.few;obtain ⟨T,hT⟩: ∃T,T=Jw (Zh L):=⟨_,rfl⟩;rw [<-hT];have HT:=zz hT;clear h hrd hT;go_enter Tryz.func251,Tryz.ntmps251
 go_wp2_with fail
 rename World=>w0;go_loopw [3,4] (λs i wr=> ∃j N:Nat,j<=L.length/\i= .int .i64 (j:Int)/\s= .int .i64 (N:Int)/\Hid (N=Jw (Zh (L.take j)))/\Hid (Kp No w0 wr)) (λ_ i _=>L.length-(intOf i).toNat)
 case atStart=>exact ⟨0,0,Nat.zero_le _,rfl,rfl,zz rfl,zz zK⟩
 case round=>
  obtain ⟨j,N,hj,rfl,rfl,HN,M8⟩:=hrel;obtain ⟨c1,hrl⟩:=Oy.out _ M8.out;by_cases hlt:j<L.length
  ·obtain ⟨g,off,rfl,l0⟩:=Zb (f:=Qp.cells) (c:=3) Qp.Yt (by decide) Ky.out hlt;have d1:=l0 _ M8.out 1 _ rfl;have hgl:g<wr.heap.size:=World.block_lt_of_cell? wr _ d1;have hst:=Qh7 L hlt;have hle:=Qrg L (j+1);have hb:=HB.out;obtain ⟨n,hn⟩: ∃n,n=L[j].data.length:=⟨_,rfl⟩;rw [<-hn] at d1 hst;have Qu1:Hid (N+n=Jw (Zh (L.take (j+1)))):=zz (by have:=HN.out;omega);have hsm:N+n<=1073741824:=by have:=HN.out;omega
   clear l0 hst hle hb hn;go_wp2_with fail
   go_roundw
   case rel=>exact ⟨j+1,N+n,by omega,by go_num,by go_num,Qu1,M8⟩
   case measure=>simp [intOf];omega
  ·obtain rfl:j=L.length:=by omega
   have hN:=HN.out;rw [List.take_length,<-HT.out] at hN;subst hN;clear hlt;go_wp2_with fail
   go_ret
   exact ⟨rfl,M8.out⟩
structure Yw (w W:World) (r room:Nat) (left:Int) (rv:Value) (L:List Qp) (G:Nat->Prop):Prop where
 c:RC W r room left rv L
 foot: ∀k,Qix r rv L k->G k\/w.heap.size<=k
 kp:Kp G w W
section
variable {w W W':World} {r room:Nat} {left left':Int} {rv rv':Value} {L L' L1 L2:List Qp} {G:Nat->Prop} {f f':Qp}
theorem Yw.step {S:Nat->Prop} (h:Yw w W r room left rv L G) (hk:Kp S W W') (hS: ∀k,S k->Qix r rv L k\/W.heap.size<=k) (hc:RC W' r room left' rv' L') (hf: ∀k,Qix r rv' L' k->Qix r rv L k\/W.heap.size<=k):Yw w W' r room left' rv' L' G:=by
 have hsz:=h.kp.size;refine ⟨hc,λk hk'=>?_,h.kp.trans hk λi hi hs=>?_⟩
 ·rcases hf k hk' with h1|h1
  ·exact h.foot k h1
  ·exact .inr (Nat.le_trans hsz h1)
 ·rcases hS i hs with h1|h1
  ·rcases h.foot i h1 with h2|h2
   ·exact h2
   ·omega
  ·omega
theorem Yw.step2 {S:Nat->Prop} (h:Yw w W r room left rv L G) (hk:Kp S W W') (hS: ∀k,S k->Qix r rv L k\/W.heap.size<=k) (hc:RC W' r room left' rv' L') (hf: ∀k,Qix r rv' L' k->G k\/w.heap.size<=k):Yw w W' r room left' rv' L' G:=by
 have hsz:=h.kp.size;refine ⟨hc,hf,h.kp.trans hk λi hi hs=>?_⟩;rcases hS i hs with h1|h1
 ·rcases h.foot i h1 with h2|h2
  ·exact h2
  ·omega
 ·omega
theorem Yw.no (h:Yw w W r room left rv L G) (hk:Kp No W W'):Yw w W' r room left rv L G:=h.step hk (λ_ x=>x.elim) (h.c.Q9 hk) (λ_ x=> .inl x)
theorem Yw.start {s:Qz} (h:Mr w r s G): ∃rv L,Yw w w r s.room (leftOf s.Jo) rv L G/\(Zh L).Perm s.files/\ ∀k,G k->k<w.heap.size:=by
 obtain ⟨rv,L,h1,h2,h3,h4⟩:=h;exact ⟨rv,L,⟨h1,λk hk=> .inl (h3 k hk),Kp.refl _ _⟩,h2,h4⟩
theorem Yw.stop {q:Int} {s:Qz} (h:Yw w W r s.room (leftOf s.Jo) rv L G) (hp:(Zh L).Perm s.files):Qj1 w r G (q,s) (.returned (.int .i64 q)) W:=
 ⟨rfl,Qix r rv L,⟨rv,L,h.c,hp,λ_ x=>x,h.c.lt⟩,h.foot,h.kp⟩
theorem Yw.Hb (h:Yw w W r room left rv L G) (hc:RC W' r room left' rv L) (hk:Kp (One r) W W'):Yw w W' r room left' rv L G:=
 h.step hk (λk (e:k=r)=> .inl (.inl e)) hc (λ_ x=> .inl x)
theorem Yw.turn (h:Yw w W r room left rv (L1++f::L2) G) (hn:f'.name=f.name) (hk:Kp (λk=>rv.ownBlock=some k) W W') (hrow:Own W' 170 3 rv (L1++f'::L2).length ((L1++f'::L2).flatMap Qp.cells)) (hok:Ux W' f')
  (hfo: ∀g,f'.val.ownBlock=some g->f.val.ownBlock=some g\/W.heap.size<=g) (hfit:Jw (Zh (L1++f'::L2))<=room):Yw w W' r room left rv (L1++f'::L2) G:=by
 have hc:=h.c;have hlen:(L1++f'::L2).length=(L1++f::L2).length:=by simp
 have hother: ∀g,g∈L1\/g∈L2->Ux W' g:=λg hg=>by
  have hg':g∈L1++f::L2:=by rcases hg with hg|hg<;>simp [hg]
  exact (hc.files g hg').keep hk λk hk1 hk2=>(hc.Q4j hg' hk1).2 hk2
 refine h.step hk (λk hk'=> .inl (.inr (.inl hk'))) ⟨hk.get hc.cell λhr=>hc.row_ne hr rfl,hrow,λg hg=>?_,Q9a hc.sorted hn,hfit,hc.roomy,by rw [hlen];exact hc.few,hc.left0,hc.Ii⟩ λk hk'=>?_
 ·rcases List.mem_append.1 hg with hg|hg
  ·exact hother g (.inl hg)
  ·rcases List.mem_cons.1 hg with rfl|hg
   ·exact hok
   ·exact hother g (.inr hg)
 ·rcases hk' with hk'|hk'|⟨g,hg,hk'⟩
  ·exact .inl (.inl hk')
  ·exact .inl (.inr (.inl hk'))
  ·rcases List.mem_append.1 hg with hg|hg
   ·exact .inl (.inr (.inr ⟨g,by simp [hg],hk'⟩))
   ·rcases List.mem_cons.1 hg with rfl|hg
    ·rcases hfo k hk' with h1|h1
     ·exact .inl (.inr (.inr ⟨f,by simp,h1⟩))
     ·exact .inr h1
    ·exact .inl (.inr (.inr ⟨g,by simp [hg],hk'⟩))
theorem Yw.row (h:Yw w W r room left rv L G) (hk:Kp (One r) W W') (hcell:W'.heap[r]?=some (.cells #[.int .i64 (room:Int),rv', .int .i64 left] 167 (0,0))) (hrow:Own W' 170 3 rv' L'.length (L'.flatMap Qp.cells))
  (hfresh: ∀g,rv'.ownBlock=some g->Qix r rv L g\/W.heap.size<=g) (Q4r: ∀f∈L',f∈L\/(Ux W' f/\ ∀g,f.val.ownBlock=some g->G g\/w.heap.size<=g)) (hs:Ys L') (hfit:Jw (Zh L')<=room) (hfew:L'.length<=4096):
  Yw w W' r room left rv' L' G:=by
 have hc:=h.c;refine h.step2 hk (λk (e:k=r)=> .inl (.inl e)) ⟨hcell,hrow,λg hg=>?_,hs,hfit,hc.roomy,hfew,hc.left0,hc.Ii⟩ λk hk'=>?_
 ·rcases Q4r g hg with h1|⟨h1,_⟩
  ·exact (hc.files g h1).keep hk λk hk1 (e:k=r)=>(hc.Q4j h1 hk1).1 e
  ·exact h1
 ·rcases hk' with hk'|hk'|⟨g,hg,hk'⟩
  ·exact h.foot k (.inl hk')
  ·rcases hfresh k hk' with h1|h1
   ·exact h.foot k h1
   ·exact .inr (Nat.le_trans h.kp.size h1)
  ·rcases Q4r g hg with h1|⟨_,h1⟩
   ·exact h.foot k (.inr (.inr ⟨g,h1,hk'⟩))
   ·exact h1 k hk'
theorem Vp (L1 L2:List Qp):Zh (L1++L2)=Zh L1++Zh L2:=by simp [Zh]
theorem Nf (f:Qp) (L:List Qp):Zh (f::L)=(f.name,⟨f.data,f.lasts⟩)::Zh L:=rfl
theorem Fs (L1:List Qp) (f:Qp) (L2:List Qp):Jw (Zh (L1++f::L2))=Jw (Zh (L1++L2))+f.data.length:=by
 rw [Vp,Nf,Vy,Eh,Vp,Vy];simp only
 omega
theorem Q3s {S:Jl} (hs:Ys (L1++f::L2)) (hp:(Zh (L1++f::L2)).Perm S) (hn:f'.name=f.name):(Zh (L1++f'::L2)).Perm (Jb S f.name ⟨f'.data,f'.lasts⟩):=by
 have h1:=Q3c hp f.name (⟨f'.data,f'.lasts⟩:Fc);have hk:=hs.keys;rw [Vp,Nf] at h1 hk;rw [Vi hk] at h1;rw [Vp,Nf,hn];exact h1
theorem Qmf {S:Jl} (hs:Ys (L1++f::L2)) (hp:(Zh (L1++L2)).Perm S):(Zh (L1++f::L2)).Perm (Jb S f.name ⟨f.data,f.lasts⟩):=by
 refine List.Perm.trans ?_ (Q3c hp f.name (⟨f.data,f.lasts⟩:Fc));have hk:=hs.keys;rw [Vp,Nf] at hk⊢;rw [Vp];refine Qk6 _ λhm=>?_;rw [List.map_append,List.map_cons,List.nodup_append] at hk;rw [List.map_append] at hm;rcases List.mem_append.1 hm with hm|hm
 ·exact hk.2.2 _ hm _ (List.mem_cons_self ..) rfl
 ·exact (List.nodup_cons.1 hk.2.1).1 hm
end
theorem Nq:(Tryz.prog.info? 170).map (λi=>((i.zero.map λz=>z.cells.size),i.size,i.bytes))=some (some 3,3,48):=by kernel_rfl
theorem Qra {W:World} {g off n cap:Nat} {L1 L2:List Qp} {f f':Qp} {j:Nat} {u:Value} (h:Own W 170 3 (.slice (some ⟨g,off,none⟩) n cap) n ((L1++f::L2).flatMap Qp.cells)) (hn:n=(L1++f::L2).length) (hj:j<3) (hu:f.cells.set j u=f'.cells):
  Own (W.setCell ⟨g,off+L1.length*3+j,none⟩ u) 170 3 (.slice (some ⟨g,off,none⟩) n cap) (L1++f'::L2).length ((L1++f'::L2).flatMap Qp.cells):=by
 have hlt:L1.length<(L1++f::L2).length:=by simp
 have h1:=Q5i h (L1.length*3+j) (by rw [hn];simp;omega) u;have hget:(L1++f::L2)[L1.length]=f:=by simp
 rw [C4 Qp.cells 3 Qp.Yt _ hlt hj (x:=f') (by rw [hget];exact hu)] at h1;have hs:(L1++f::L2).set L1.length f'=L1++f'::L2:=by simp
 rw [hs] at h1;rw [Nat.add_assoc];have e:n=(L1++f'::L2).length:=by rw [hn];simp
 rw [<-e];exact h1
section
variable {w V W:World} {r room n Yp g off:Nat} {left:Int} {rv:Value} {L1 L2:List Qp} {G:Nat->Prop} {f f':Qp}
structure Qui (W:World) (r g off n Yp:Nat) (i:Nat) (f:Qp):Prop where
 c1:W.cell? ⟨r,1,none⟩=some (.slice (some ⟨g,off,none⟩) n Yp)
 d0:W.cell? ⟨g,off+i*3,none⟩=some (.string f.name)
 d1:W.cell? ⟨g,off+i*3+1,none⟩=some (.slice f.a f.data.length f.cap)
 d2:W.cell? ⟨g,off+i*3+2,none⟩=some (.int .i64 (f.lasts:Int))
 fr: ∀o,W.frozen? ⟨r,o,none⟩=false
 fg: ∀o,W.frozen? ⟨g,o,none⟩=false
 rl:r<W.heap.size
 gl:g<W.heap.size
theorem RC.at_ (h:RC V r room left rv (L1++f::L2)): ∃g off Yp n,n=(L1++f::L2).length/\L1.length<n/\n<=Yp/\g≠r/\rv= .slice (some ⟨g,off,none⟩) n Yp/\ ∀W,Kp No V W->Qui W r g off n Yp L1.length f:=by
 obtain ⟨ra,Yp,rfl,hrc,hrd⟩:=h.row.rd;obtain ⟨g,off,rfl,hgl,_⟩:=h.row.place (by simp;omega);have hlt:L1.length<(L1++f::L2).length:=by simp
 have hget:(L1++f::L2)[L1.length]=f:=by simp
 obtain ⟨g',off',hg',hc⟩:=Zb (f:=Qp.cells) (c:=3) Qp.Yt (by decide) hrd hlt;injection hg' with hg';injection hg' with e1 e2;subst e1;subst e2;rw [hget] at hc;refine ⟨g,off,Yp,_,rfl,hlt,hrc,h.row_ne rfl,rfl,λW hW=>?_⟩;have hC:=h.Q9 hW;obtain ⟨_,_,hgg,Qfv,hfz⟩:=hC.row.place (by simp;omega);injection hgg with hgg;injection hgg with e1 _;subst e1;refine ⟨by rw [Q4 hC.cell];rfl,?_,hc W hW 1 _ rfl,hc W hW 2 _ rfl,λo=>Qh hC.cell o,hfz,Q7 hC.cell,Qfv⟩;have:=hc W hW 0 _ rfl;rwa [Nat.add_zero] at this
theorem Yw.setAt (h:Yw w V r room left (.slice (some ⟨g,off,none⟩) n Yp) (L1++f::L2) G) (hn:n=(L1++f::L2).length) (hW:Kp No V W) (j:Nat) (u:Value) (hj:j<3) (f':Qp) (hu:f.cells.set j u=f'.cells) (hnm:f'.name=f.name) (hok:Ux W f')
  (hfo: ∀k,f'.val.ownBlock=some k->f.val.ownBlock=some k\/V.heap.size<=k) (hfit:Jw (Zh (L1++f'::L2))<=room):
  Yw w (W.setCell ⟨g,off+L1.length*3+j,none⟩ u) r room left (.slice (some ⟨g,off,none⟩) n Yp) (L1++f'::L2) G:=by
 have hC:=h.c.Q9 hW;have hs:Kp (One g) W (W.setCell ⟨g,off+L1.length*3+j,none⟩ u):=(Kp.refl (One g) _).setCell (p:=⟨g,off+L1.length*3+j,none⟩) (.inl rfl) u;have hrow:Own W 170 3 (.slice (some ⟨g,off,none⟩) n Yp) n ((L1++f::L2).flatMap Qp.cells):=by have:=hC.row;rwa [<-hn] at this
 obtain ⟨cur,J5⟩:=hrow.type g rfl;refine h.turn hnm ((Kp.Qx hW).trans hs λk _ (e:k=g)=>by show some g=some k;rw [e]) (Qra hrow hn hj hu) (hok.keep hs λk hk (e:k=g)=>?_) hfo hfit;obtain ⟨cur',Qkm⟩:=hok.1.type k hk;exact Qd Qkm J5 (by decide) e
end
theorem Yw.laid {w V w9:World} {r room N c9:Nat} {left:Int} {rv:Value} {a9:Option Addr} {L Q:List Qp} {G:Nat->Prop} (h:Yw w V r room left rv L G) (hm:Jd 170 3 Qp.cells V w9 (.slice a9 N c9) N Q)
  (Q4r: ∀f∈Q,f∈L\/(Ux w9 f/\ ∀g,f.val.ownBlock=some g->G g\/w.heap.size<=g)) (hs:Ys Q) (hfit:Jw (Zh Q)<=room) (hfew:Q.length<=4096):
  Yw w (w9.setCell ⟨r,1,none⟩ (.slice a9 N c9)) r room left (.slice a9 N c9) Q G/\w9.cell? ⟨r,1,none⟩=some rv/\w9.frozen? ⟨r,1,none⟩=false/\r<w9.heap.size:=by
 have hk9:=hm.2.2.2;have Qoa:=(h.c.Q9 hk9).cell;have hs9:Kp (One r) w9 (w9.setCell ⟨r,1,none⟩ (.slice a9 N c9)):=(Kp.refl (One r) _).setCell (p:=⟨r,1,none⟩) (.inl rfl) _;have hrl:r<V.heap.size:=Q7 h.c.cell;refine ⟨h.row ((Kp.Qx hk9).Q0 hs9) ?_ ?_ (λg hg=> .inr (hm.2.2.1 g hg)) (λf hf=>?_) hs hfit hfew,?_,Qh Qoa _,Q7 Qoa⟩
 ·have:=Ql Qoa 1 (.slice a9 N c9);simpa using this
 ·have h1:=hm.2.1.keep hs9 λg hg (e:g=r)=>by have:=hm.2.2.1 g hg;omega
  have e:=hm.1;rw [e] at h1⊢;exact h1
 ·rcases Q4r f hf with h1|⟨h1,h2⟩
  ·exact .inl h1
  ·refine .inr ⟨h1.keep hs9 λg hg (e:g=r)=>?_,h2⟩;obtain ⟨cur,J5⟩:=h1.1.type g hg;exact Qd J5 Qoa (by decide) e
 ·rw [Q4 Qoa];rfl
theorem Qsk {s:Qz} (h:s.Jo=some 0) (ns:List ByteArray) (c:Int) (fs:Jl):five s ns c fs=(9,s):=by simp [five,h]
theorem Qsj {s:Qz} (h:s.Jo≠some 0) {ns:List ByteArray} (hn:ns.all Jq=false) (c:Int) (fs:Jl):five s ns c fs=(1,s):=by simp [five,h,hn]
theorem Qjy {s:Qz} (h:s.Jo≠some 0) {ns:List ByteArray} (hn:ns.all Jq=true) {c:Int} (hc:c≠0) (fs:Jl):five s ns c fs=(c,s):=by simp [five,h,hn,hc]
theorem Qjx {s:Qz} (h:s.Jo≠some 0) {ns:List ByteArray} (hn:ns.all Jq=true) {c:Int} (hc:c=0) (fs:Jl):five s ns c fs=(0,{s with Jo:=s.Jo.map (· - 1),files:=fs}):=by simp [five,h,hn,hc]
theorem Q3l (f:Option Nat):leftOf f=0↔f=some 0:=by
 cases f with
 |none=>simp [leftOf]
 |some n=>simp [leftOf]
def Q88 (f:Option Nat) (ns:List ByteArray):Int:=if leftOf f=0 then 9 else if ns.all Jq=true then 0 else 1
theorem Q0u (f:Option Nat) (ns:List ByteArray):(f=some 0/\Q88 f ns=9)\/(f≠some 0/\ns.all Jq=false/\Q88 f ns=1)\/(f≠some 0/\ns.all Jq=true/\Q88 f ns=0):=by
 unfold Q88;by_cases h:f=some 0
 ·exact .inl ⟨h,if_pos ((Q3l f).2 h)⟩
 ·rw [if_neg (λe=>h ((Q3l f).1 e))];cases hn:ns.all Jq with
  |false=>exact .inr (.inl ⟨h,rfl,rfl⟩)
  |true=>exact .inr (.inr ⟨h,rfl,rfl⟩)
end Go.Proofs.YtgnkmjeoaoongaaGreatDoor
namespace Go.Mer
open Go Go.RowKit
theorem Rd.Q55 {S:Nat->Prop} {w w':World} {B:Nat} {a:Option Addr} {xs:List Value} (h:Rd w B a xs) (hk:Kp S w w') (hS:0<xs.length-> ∀k o,a=some ⟨k,o,none⟩-> ¬S k):Rd w' w'.heap.size a xs:=λhx=>by
 obtain ⟨g,off,rfl,hg,hB,hc⟩:=h hx;have hgl:g<w.heap.size:=by omega
 refine ⟨g,off,rfl,hk.lt hgl,Nat.le_refl _,λj u hu=>?_⟩;exact (hk.cell (p:=⟨g,off+j,none⟩) hgl (hS hx g off rfl)).trans (hc j u hu)
end Go.Mer
namespace Go.Proofs.YtgnkmjeoaoongaaGreatDoor
open Go.RowKit Go.Mer
theorem Ld (w:World) (r:Nat) (s:Qz) (G:Nat->Prop) (h:Mr w r s G) (name:ByteArray) (pa:Option Addr) (pc:Nat) (p:List UInt8) (J4p:Rd w w.heap.size pa (u8s p)) (hpm:p.length<=1073741824) (Qbr:0<(u8s p).length-> ∀k o,pa=some ⟨k,o,none⟩-> ¬G k):
  Calls Tryz.prog 198 #[.pointer (some ⟨r,0,none⟩), .string name, .slice pa p.length pc] w (Qj1 w r G (Gy s name p)):=by
 have Jai:=zz (λW (hW:Kp G w W)=>J4p.Q55 hW Qbr);clear J4p Qbr;obtain ⟨rv,L,hR,hp,Ku⟩:=Yw.start h;obtain ⟨W1,hW1⟩: ∃W,W=w.alloc (.cells #[.string name] 9):=⟨_,rfl⟩;have k1:Kp No w W1:=by rw [hW1];exact zK.alloc _
 have hR1:=hR.no k1;have hm:=Q8x W1 r s.room (leftOf s.Jo) rv L hR1.c (some ⟨w.heap.size,0,none⟩) 1 [name] (by rw [hW1];exact Nw w name) (by simp);rw [show (if leftOf s.Jo=0 then (9:Int) else if ([name]:List ByteArray).all Jq=true then 0 else 1)=Q88 s.Jo [name] from rfl] at hm;have hq:=Q0u s.Jo [name];obtain ⟨q,hq0⟩: ∃q,q=Q88 s.Jo [name]:=⟨_,rfl⟩;rw [<-hq0] at hm hq;have HM:=zz hm;have HQ:=zz hq;have HP:=zz hp;have HR1:=zz hR1;have HW1:=zz hW1;skip
 clear hm hq hp hR1 hW1 k1 hR Ku h hq0;go_enter Tryz.func198,Tryz.ntmps198
 go_wp2_with fail
 rw [<-HW1.out];refine HM.out.mono ?_;rintro e w2 ⟨rfl,hk2⟩;have HR2:=zz (HR1.out.no hk2);clear hk2 HM;rcases HQ.out with ⟨h0,rfl⟩|⟨h0,hns,rfl⟩|⟨h0,hns,rfl⟩
 ·
  have H0:=zz h0;clear h0;go_wp2_with fail
  go_ret
  rw [Gy,Qsk H0.out];exact HR2.out.stop HP.out
 ·
  have H0:=zz h0;have Qik:=zz hns;clear h0 hns;go_wp2_with fail
  go_ret
  rw [Gy,Qsj H0.out Qik.out];exact HR2.out.stop HP.out
 have H0:=zz h0;have Qik:=zz hns;clear h0 hns HQ HR1 HW1;have hs:=Cn w2 r s.room (leftOf s.Jo) rv L HR2.out.c name;have Mp:=zz hs;clear hs;go_wp2_with fail
 refine Mp.out.mono ?_;rintro e w3 ⟨i,b,rfl,hsp,hk3⟩;have HR3:=zz (HR2.out.no hk3);clear hk3 Mp HR2;have HU:=zz (λn=>Qgp (w3.drewN n) r s.room (leftOf s.Jo) rv L (HR3.out.c.Q9 (zK.drewN n)));have htot:Jw s.files=Jw (Zh L):=(Q40 HP.out).symm;have hlen:s.files.length=L.length:=by rw [<-HP.out.length_eq];simp [Zh]
 obtain ⟨T,hT⟩: ∃T,T=Jw (Zh L):=⟨_,rfl⟩;rw [<-hT] at HU htot;have Jiz:T<=1073741824:=by rw [hT];exact Nat.le_trans HR3.out.c.fits HR3.out.c.roomy
 have hrb:=HR3.out.c.roomy;have hfew:=HR3.out.c.few;have Hp:=zz htot;have J3w:=zz hlen;have HT:=zz hT;obtain ⟨room,hroom⟩: ∃x:Int,x=(s.room:Int):=⟨_,rfl⟩;by_cases hfull:s.room<T+p.length
 ·have f1:decide ((s.room:Int)<(T:Int)+(p.length:Int))=true:=by simp;omega
  have HE:=zz (show Zr s name p=6 by unfold Zr;rw [if_pos (.inl (by rw [Hp.out];exact hfull))]);obtain ⟨ra,Yp,Qa2,hrc,hrd⟩:=HR3.out.c.row.rd;have c1: ∀W,Kp No w3 W->W.cell? ⟨r,1,none⟩=some (.slice ra L.length Yp):=λW hW=>by rw [Q4 (HR3.out.c.Q9 hW).cell,Qa2];rfl
  have c0: ∀W,Kp No w3 W->W.cell? ⟨r,0,none⟩=some (.int .i64 (s.room:Int)):=λW hW=>by rw [Q4 (HR3.out.c.Q9 hW).cell];rfl
  have rl:r<w3.heap.size:=Q7 HR3.out.c.cell;have Oy:=zz c1;clear htot hlen hT hfull hsp hrd;go_wp2_with fail
  refine zD No [0,2,0,0,0,0,0,0,0,0,0,0,0,0,0,0,0,0,0,0,0,0] [0,2,3,5,6,7,8,1,4,9,10,11,12,13,14,15,16,17,18,19,20,21] ?_;repeat (first|refine zA ?_|refine zB ?_|refine zC ?_)
  refine Q8 rfl rfl (λn1=>?_);go_wp2_with fail
  refine (HU.out n1).mono ?_;rintro e w4 ⟨rfl,hk4⟩;have K4:Kp No w3 w4:=hk4.Qf;clear hk4;go_wp2_with fail
  repeat (first|refine zA ?_|refine zB ?_|refine zC ?_)
  refine Qa (λnq=>?_);obtain ⟨V,hV⟩: ∃W,W=w4.drewN nq:=⟨_,rfl⟩;have Q49:=zz (show Kp No w3 V by rw [hV];exact K4.drewN nq);rw [<-hV];clear hV K4 HU c0 c1;go_wp2_with fail
  go_ret
  rw [Gy,Qjy H0.out Qik.out (by rw [HE.out];decide),HE.out];exact (HR3.out.no Q49.out).stop HP.out
 ·have f1:decide ((s.room:Int)<(T:Int)+(p.length:Int))=false:=by simp;omega
  have Qyw:=zz (show T+p.length<=s.room by omega);clear hfull;cases hsp with
  |no L1 L2 hL h1 h2=>
   have Jia:=zz h1;have HL2:=zz h2
   have hga:Qs s.files name=none:=by
    rw [<-Xv HP.out HR3.out.c.sorted.keys,hL];exact Qb2 h1 h2
   have Jdq:=zz hga;by_cases Q3e:4096<=L.length
   ·have HE:=zz (show Zr s name p=6 by unfold Zr;rw [if_pos (.inr ⟨Jdq.out,by rw [J3w.out];exact Q3e⟩)]);have f2:decide ((4096:Int)<=(L.length:Int))=true:=by simp;omega
    have f3:decide ((L.length:Int)>=(4096:Int))=true:=by simp;omega
    obtain ⟨ra,Yp,Qa2,hrc,hrd⟩:=HR3.out.c.row.rd;have c1: ∀W,Kp No w3 W->W.cell? ⟨r,1,none⟩=some (.slice ra L.length Yp):=λW hW=>by rw [Q4 (HR3.out.c.Q9 hW).cell,Qa2];rfl
    have c0: ∀W,Kp No w3 W->W.cell? ⟨r,0,none⟩=some (.int .i64 (s.room:Int)):=λW hW=>by rw [Q4 (HR3.out.c.Q9 hW).cell];rfl
    have rl:r<w3.heap.size:=Q7 HR3.out.c.cell;have Oy:=zz c1;clear htot hlen hT hga hL h1 h2 hrd;go_wp2_with fail
    refine zD No [0,2,0,0,0,0,0,0,0,0,0,0,0,0,0,0,0,0,0,0,0,0] [0,2,3,5,6,7,8,1,4,9,10,11,12,13,14,15,16,17,18,19,20,21] ?_;repeat (first|refine zA ?_|refine zB ?_|refine zC ?_)
    refine Q8 rfl rfl (λn1=>?_);go_wp2_with fail
    refine (HU.out n1).mono ?_;rintro e w4 ⟨rfl,hk4⟩;have K4:Kp No w3 w4:=hk4.Qf;clear hk4;go_wp2_with fail
    repeat (first|refine zA ?_|refine zB ?_|refine zC ?_)
    refine Qa (λnq=>?_);obtain ⟨V,hV⟩: ∃W,W=w4.drewN nq:=⟨_,rfl⟩;have Q49:=zz (show Kp No w3 V by rw [hV];exact K4.drewN nq);rw [<-hV];clear hV K4 HU c0 c1;go_wp2_with fail
    go_ret
    rw [Gy,Qjy H0.out Qik.out (by rw [HE.out];decide),HE.out];exact (HR3.out.no Q49.out).stop HP.out
   ·have HE:=zz (show Zr s name p=0 by
     unfold Zr;rw [if_neg];rintro (h|⟨_,h⟩)
     ·rw [Hp.out] at h;have:=Qyw.out;omega
     ·rw [J3w.out] at h;omega)
    have f2:decide ((4096:Int)<=(L.length:Int))=false:=by simp;omega
    have f3:decide ((L.length:Int)>=(4096:Int))=false:=by simp;omega
    have HL:=zz hL;have El:=zz (show L.length+1<=4096 by omega);have hs0:Ys (L1++L2):=by rw [<-hL];exact HR3.out.c.sorted
    have Qo1:=zz (sorted_put (f:=⟨name,none,0,[],0⟩) hs0 h1 h2)
    have Qs6:Hid (∀a c,(Zh (L1++⟨name,a,c,[]++p,0⟩::L2)).Perm (Jg s.files name p)):=zz (λa c=>by
     unfold Jg;rw [hga];exact Qmf (f:=⟨name,a,c,[]++p,0⟩) (sorted_put hs0 h1 h2) (by rw [<-hL];exact HP.out))
    have Q6a:Hid (∀a c,Jw (Zh (L1++⟨name,a,c,[]++p,0⟩::L2))<=s.room):=zz λa c=>by
     have h1:=Qyw.out;rw [HT.out,hL] at h1;rw [Fs];exact h1
    have Qd1:Hid (Jw (Zh (L1++⟨name,none,0,[],0⟩::L2))<=s.room):=zz (by
     have h1:=Qyw.out;rw [HT.out,hL] at h1;rw [Fs];simp only [List.length_nil];omega)
    obtain ⟨ra,Yp,Qa2,hrc,hrd⟩:=HR3.out.c.row.rd;have c1: ∀W,Kp No w3 W->W.cell? ⟨r,1,none⟩=some (.slice ra L.length Yp):=λW hW=>by rw [Q4 (HR3.out.c.Q9 hW).cell,Qa2];rfl
    have c0: ∀W,Kp No w3 W->W.cell? ⟨r,0,none⟩=some (.int .i64 (s.room:Int)):=λW hW=>by rw [Q4 (HR3.out.c.Q9 hW).cell];rfl
    have rl:r<w3.heap.size:=Q7 HR3.out.c.cell;have Oy:=zz c1;have hile:L1.length<=L.length:=by rw [hL];simp
    have hic:L1.length<=Yp:=by omega
    have Ky:=zz hrd;clear htot hlen hT hga hL h1 h2 hrd Q3e hs0;go_wp2_with fail
    refine zD No [0,2,0,0,0,0,0,0,0,0,0,0,0,0,0,0,0,0,0,0,0,0] [0,2,3,5,6,7,8,1,4,9,10,11,12,13,14,15,16,17,18,19,20,21] ?_;repeat (first|refine zA ?_|refine zB ?_|refine zC ?_)
    refine Q8 rfl rfl (λn1=>?_);go_wp2_with fail
    refine (HU.out n1).mono ?_;rintro e w4 ⟨rfl,hk4⟩;have K4:Kp No w3 w4:=hk4.Qf;clear hk4;go_wp2_with fail
    repeat (first|refine zA ?_|refine zB ?_|refine zC ?_)
    refine Qa (λnq=>?_);obtain ⟨V,hV⟩: ∃W,W=w4.drewN nq:=⟨_,rfl⟩;have Q49:=zz (show Kp No w3 V by rw [hV];exact K4.drewN nq);rw [<-hV];clear hV K4 HU c0 c1;have Qio:=zz (HR3.out.no Q49.out);go_upto_region 8 with fail
    obtain ⟨i,hi⟩: ∃i,i=L1.length:=⟨_,rfl⟩;obtain ⟨n,hn⟩: ∃n,n=L.length:=⟨_,rfl⟩;have hLn:L.length=L1.length+L2.length:=by rw [HL.out];simp
    have htk:(L.flatMap Qp.cells).take (i*3)=L1.flatMap Qp.cells:=by
     rw [Yg Qp.cells 3 Qp.Yt,HL.out,hi];simp
    have hdr:(L.flatMap Qp.cells).drop (i*3)=L2.flatMap Qp.cells:=by
     rw [Un Qp.cells 3 Qp.Yt,HL.out,hi];simp
    obtain ⟨W5,C8⟩: ∃W,W=V.alloc (.cells #[] 170):=⟨_,rfl⟩;have k5:Kp No V W5:=by rw [C8];exact zK.alloc _
    have Jcp:Kp No w3 W5:=Q49.out.Q0 k5;have Jd1:Jd 170 3 Qp.cells V W5 (.slice (some ⟨V.heap.size,0,none⟩) 0 0) 0 []:=by rw [C8];exact Jd.made zK
    have Qw2:=((Ky.out.kp Jcp).take (i*3));rw [htk] at Qw2;obtain ⟨a6,c6,W6,hrun,hm,_⟩:=Jd1.app Tryz.underlying165 Nq Qp.cells_one L1 (Ub Qp.Yt (c:=Yp) Qw2) rfl (by unfold maxLen;omega) (by omega);simp only [Nat.zero_add,List.nil_append] at hrun hm;rw [<-hi] at hrun hm;have Jhg:=hm.2.2.2;have eV:=Oy.out V Q49.out;have Jhy:r<V.heap.size:=Nat.lt_of_lt_of_le rl Q49.out.size;obtain ⟨W7,Qo9⟩: ∃W,W=W6.alloc (.cells #[.string name, .slice none 0 0, .int .i64 0] 170):=⟨_,rfl⟩;have Q7q:Kp No W6 W7:=by rw [Qo9];exact zK.alloc _
    have b7:W7.heap[W6.heap.size]?=some (.cells #[.string name, .slice none 0 0, .int .i64 0] 170 (0,0)):=by rw [Qo9];exact heap_alloc_new W6 _
    obtain ⟨a8,c8,W8,hrun8,J83,_⟩:=(hm.keep Q7q).app Tryz.underlying165 Nq Qp.cells_one [(⟨name,none,0,[],0⟩:Qp)] (Of Qp.Yt b7 rfl) rfl (by unfold maxLen;omega) (by omega);have kv8:=J83.2.2.2;skip
    have J2z:Kp No w3 W8:=Q49.out.Q0 kv8;have e8:=Oy.out W8 J2z;have Jhx:r<W8.heap.size:=Nat.lt_of_lt_of_le rl J2z.size;rw [C8] at hrun;rw [Qo9] at hrun8;have Qo4:=zz hrun;have Qi0:=zz hrun8;have Jac:=zz J83;have HDR:=zz hdr;have hin:i<=n:=by omega
    have hnc:n<=Yp:=by omega
    have hn2:n<=4096:=by have:=El.out;omega
    rw [<-hn] at eV e8;rw [<-hi];have HI:=zz hi;have Qxd:=zz hn;have hL2:L2.length=n-i:=by omega
    have Qtx:=zz hL2;have Ql7:=Ky.out.kp J2z;have Jec:=zz Ql7;have Jdv:=zz J2z
    have Ao:=zz (show ∀W9,Kp No V W9-> ∀f∈(L1++[(⟨name,none,0,[],0⟩:Qp)])++L2,f∈L\/(Ux W9 f/\ ∀g,f.val.ownBlock=some g->G g\/w.heap.size<=g) from λW9 Q2d f hf=>by
     rw [HL.out];rcases List.mem_append.1 hf with hf|hf
     ·rcases List.mem_append.1 hf with hf|hf
      ·exact .inl (List.mem_append_left _ hf)
      ·obtain rfl:=List.mem_singleton.1 hf;exact .inr ⟨⟨Own.nil _ _ _,Nat.le_refl _⟩,λg hg=>by simp [Qp.val,Value.ownBlock] at hg⟩
     ·exact .inl (List.mem_append_right _ hf))
    have HQ:=zz (show (L1++[(⟨name,none,0,[],0⟩:Qp)])++L2=L1++⟨name,none,0,[],0⟩::L2 by rw [List.append_assoc];rfl);have J3r:=zz (show ((L1++[(⟨name,none,0,[],0⟩:Qp)])++L2).length<=4096 by have:=El.out;rw [HQ.out,List.length_append,List.length_cons];omega);clear hrun hrun8 hm J83 C8 Qo9 k5 Jcp Jd1 Qw2 Jhg Q7q b7 kv8 J2z hLn htk hdr hL2 hi hn;go_upto_region 9 with (at_builtin;refine wpList_append_run rfl rfl rfl rfl Qo4.out ?_)
    go_upto_region 10 with (at_builtin;refine wpList_append_run rfl rfl rfl rfl Qi0.out ?_)
    clear Qo4 Qi0 eV;go_cut [] from 61 to 71 (λwx=>Hid (∃rv',Yw w wx r s.room (leftOf s.Jo) rv' (L1++⟨name,none,0,[],0⟩::L2) G))
    case first=>
     rcases Nat.lt_or_ge i n with hlt|hge
     ·have Jgn:i<Yp:=by omega
      obtain ⟨g,off,rfl,_,_,_⟩:=Ql7 (by rw [Xt Qp.cells 3 Qp.Yt,<-Qxd.out];omega);have hd:=Ql7.drop (i*3);rw [HDR.out] at hd;have hsrc:=Ub Qp.Yt (c:=Yp-i) hd;rw [Qtx.out] at hsrc;obtain ⟨a9,c9,w9,hrun,hm,_⟩:=Jac.out.app Tryz.underlying165 Nq Qp.cells_one L2 hsrc Qtx.out.symm (by unfold maxLen;omega) (by omega);rw [show i+1+(n-i)=n+1 from by omega] at hrun hm;simp only [Option.map_some,Z8] at hrun;obtain ⟨M3,ec,fc,rc⟩:=Qio.out.laid hm (Ao.out w9 hm.2.2.2) (by rw [HQ.out];exact Qo1.out) (by rw [HQ.out];exact Qd1.out) J3r.out;rw [HQ.out] at M3;have Qa0:=zz hrun;have Qu6:=zz M3;rw [Qa2,<-Qxd.out] at ec;clear hd hsrc hrun hm Ql7 M3;go_wp2_with (at_builtin;refine wpList_append_run rfl rfl rfl rfl Qa0.out ?_)
      go_meet
      case rel=>exact zz ⟨_,Qu6.out⟩
     ·obtain rfl:i=n:=by omega
      have hl2:L2=[]:=List.eq_nil_of_length_eq_zero (by have:=Qtx.out;omega);have hm0:=λ(v:Option Addr) (c:Nat)=>Jac.out.app Tryz.underlying165 Nq Qp.cells_one L2 (x:= .slice v 0 c) (m:=0) (by rw [hl2];exact Qqq v c) (by rw [hl2];rfl) (by unfold maxLen;omega) (by omega);have Qoo:=zz hm0;have Jdy:=zz hl2;clear hm0 hl2 Ql7;cases ra with
      |none=>
       obtain ⟨a9,c9,w9,hrun,hm,_⟩:=Qoo.out none (Yp-i);rw [Nat.add_zero] at hrun hm;obtain ⟨M3,ec,fc,rc⟩:=Qio.out.laid hm (Ao.out w9 hm.2.2.2) (by rw [HQ.out];exact Qo1.out) (by rw [HQ.out];exact Qd1.out) J3r.out;rw [HQ.out] at M3;have Qa0:=zz hrun;have Qu6:=zz M3;rw [Qa2,<-Qxd.out] at ec;clear hrun hm M3;go_wp2_with (at_builtin;refine wpList_append_run rfl rfl rfl rfl Qa0.out ?_)
       go_meet
       case rel=>exact zz ⟨_,Qu6.out⟩
      |some a0=>
       by_cases hcc:i=Yp
       ·subst hcc;obtain ⟨a9,c9,w9,hrun,hm,_⟩:=Qoo.out (some a0) 0;clear hnc hin hic;rw [Nat.add_zero] at hrun hm;obtain ⟨M3,ec,fc,rc⟩:=Qio.out.laid hm (Ao.out w9 hm.2.2.2) (by rw [HQ.out];exact Qo1.out) (by rw [HQ.out];exact Qd1.out) J3r.out;rw [HQ.out] at M3;have Qa0:=zz hrun;have Qu6:=zz M3;rw [Qa2,<-Qxd.out] at ec;clear hrun hm M3;go_wp2_with (at_builtin;refine wpList_append_run rfl rfl rfl rfl Qa0.out ?_)
        go_meet
        case rel=>exact zz ⟨_,Qu6.out⟩
       ·have Jgf:i<Yp:=by omega
        obtain ⟨a9,c9,w9,hrun,hm,_⟩:=Qoo.out (some (a0.add (i*3))) (Yp-i);rw [Nat.add_zero] at hrun hm;obtain ⟨M3,ec,fc,rc⟩:=Qio.out.laid hm (Ao.out w9 hm.2.2.2) (by rw [HQ.out];exact Qo1.out) (by rw [HQ.out];exact Qd1.out) J3r.out;rw [HQ.out] at M3;have Qa0:=zz hrun;have Qu6:=zz M3;rw [Qa2,<-Qxd.out] at ec;clear hrun hm M3;go_wp2_with (at_builtin;refine wpList_append_run rfl rfl rfl rfl Qa0.out ?_)
        go_meet
        case rel=>exact zz ⟨_,Qu6.out⟩
    case rest=>
    obtain ⟨Jhz,M3⟩:=hcut.out;clear hcut Qa2 hile hic Jhy Jhx e8 hin hnc hn2 Qio Q49 rl Oy Ky;rename World=>V;obtain ⟨f,hf⟩: ∃f:Qp,f=⟨name,none,0,[],0⟩:=⟨_,rfl⟩;have Qf0:Hid (Yw w V r s.room (leftOf s.Jo) Jhz (L1++f::L2) G):=zz (by rw [hf];exact M3);have Q2j:=zz (show ∀a c,(Zh (L1++⟨f.name,a,c,f.data++p,f.lasts⟩::L2)).Perm (Jg s.files name p) by rw [hf];exact Qs6.out);have K7:=zz (show ∀a c,Jw (Zh (L1++⟨f.name,a,c,f.data++p,f.lasts⟩::L2))<=s.room by rw [hf];exact Q6a.out);clear Qs6 Q6a;rename Hid (∀a c,(Zh (L1++⟨f.name,a,c,f.data++p,f.lasts⟩::L2)).Perm (Jg s.files name p))=>Qs6;rename Hid (∀a c,Jw (Zh (L1++⟨f.name,a,c,f.data++p,f.lasts⟩::L2))<=s.room)=>Q6a;have Qu7:=zz (λW (hW:Kp No V W) n=>Jai.out (W.drewN n) ((Qf0.out.kp.Qr hW).drewN n));clear hf M3;rw [HI.out];clear HI Qxd;obtain ⟨g,off,Yp,n,hn,hlt,hcap,hgr,rfl,hcells⟩:=Qf0.out.c.at_;have HF:=zz (Qf0.out.c.files f (by simp));have HN:=zz hn;have q1: ∀W,Kp No V W->W.cell? ⟨r,1,none⟩=some (.slice (some ⟨g,off,none⟩) n Yp):=λW hW=>(hcells W hW).c1;have q2: ∀W,Kp No V W->W.cell? ⟨g,off+L1.length*3+1,none⟩=some (.slice f.a f.data.length f.cap):=λW hW=>(hcells W hW).d1;obtain ⟨i,hi⟩: ∃i,i=L1.length:=⟨_,rfl⟩;rw [<-hi] at hlt q2⊢;have HI:=zz hi;have Q47:=zz hcells;have rl:=(hcells V zK).rl;have gl:=(hcells V zK).gl;obtain ⟨m,hm⟩: ∃m,m=f.data.length:=⟨_,rfl⟩;rw [<-hm] at q2;have Qex:=zz hm
    have hmm:m<=1073741824:=by
     have h1:=Qf0.out.c.fits;have h2:=Qf0.out.c.roomy;rw [Fs] at h1;omega
    clear hn hi hcells hm;go_upto_region 11 with fail
    refine Jk (Kp No V) [0,0,0,0,0,2,0,0,0,0,0,0,0,0,2,0,2,0,0,2] [0,1,2,3,4,6,7,8,9,10,11,12,13,15,5,14,16,17,18] 19 (by kernel_rfl) (by kernel_rfl) (λ_ n h=>h.drewN n) zK ?_;repeat (first|refine zA ?_|refine zB ?_|refine zC ?_)
    refine Q8 rfl rfl (λn1=>?_);go_wp2_with fail
    obtain ⟨W6,Q75⟩: ∃W,W=(V.drewN n1).alloc (.cells #[] 5):=⟨_,rfl⟩;have k6:Kp No V W6:=by rw [Q75];exact (zK.drewN _).alloc _
    have Ib:Own W6 5 1 (.slice (some ⟨V.heap.size,0,none⟩) 0 0) 0 []:=by rw [Q75];exact Own.made (V.drewN n1) 5 1 #[] 0 0 (Nat.le_refl _) (by simp [maxLen]) (by simp) rfl
    rw [<-Q75];have J5r:=zz Ib;clear Q75 Ib;refine ⟨k6,?_⟩;refine Q8 rfl rfl (λn2=>?_);obtain ⟨a7,c7,W7,hrun,Qa1,Ca,hb7⟩:=Mu (W6.drewN n2) V.heap.size (J5r.out.drewN n2) f.data f.a f.cap ((HF.out.1.rd').kp (k6.drewN n2)) (by have:=Qex.out;omega);rw [<-Qex.out] at hrun;have k7:Kp No V W7:=(k6.drewN n2).trans Ca (λk hk (e:k=V.heap.size)=>by omega);have Bt:=zz hrun;have Qor:=zz Qa1;have Cw:=zz hb7;have hs6:V.heap.size<=(W6.drewN n2).heap.size:=k6.size;have hs7:(W6.drewN n2).heap.size<=W7.heap.size:=Ca.size;clear hrun Qa1 Ca hb7;refine wpList_append_run rfl rfl rfl rfl Bt.out (wpList_nil ⟨rfl,k7,?_⟩);clear Bt;refine Q8 rfl rfl (λn3=>?_);obtain ⟨a8,c8,W8,hrun,Qsz,hk8,hb8⟩:=Eb (W7.drewN n3) (.slice a7 f.data.length c7) f.data p (Qor.out.drewN n3) pa pc (Qu7.out W7 k7 n3) (by have:=Qex.out;omega)
    have k8:Kp No V W8:=(k7.drewN n3).trans hk8 (λk hk hs=>by
     rcases Cw.out k hs with h1|h1
     ·omega
     ·omega)
    obtain ⟨m2,hm2⟩: ∃m2,m2=(f.data++p).length:=⟨_,rfl⟩;rw [<-hm2,<-Qex.out] at hrun;have Qi0:=zz hrun;have Qz0:=zz Qsz
    have Gc:=zz (show ∀k,(Value.slice a8 (f.data++p).length c8).ownBlock=some k->V.heap.size<=k from λk hk=>by
     rcases hb8 with h1|⟨g',h1,h2⟩
     ·rw [h1] at hk;rcases Cw.out k hk with h3|h3
      ·omega
      ·omega
     ·rw [h1] at hk;injection hk with hk;have h3:(W7.drewN n3).heap.size=W7.heap.size:=rfl;omega)
    have Qyp:=zz hm2;clear hrun Qsz hk8 hb8 hm2;refine wpList_append_run rfl rfl rfl rfl Qi0.out (wpList_nil ⟨rfl,k8,?_⟩);clear Qi0 q1 q2;repeat (first|refine zA ?_|refine zB ?_|refine zC ?_)
    refine Yu (λn4=>?_);refine Q8 rfl rfl (λn5=>?_);obtain ⟨W9,Q2d⟩: ∃W,W=(W8.drewN n4).drewN n5:=⟨_,rfl⟩;have k9:Kp No V W9:=by rw [Q2d];exact (k8.drewN n4).drewN n5
    have Qfw:Own W9 5 1 (.slice a8 (f.data++p).length c8) (f.data++p).length (u8s (f.data++p)):=by rw [Q2d];exact Qz0.out
    rw [<-Q2d];have d1:W9.cell? ⟨g,off+i*3+1,none⟩=some (.slice f.a m f.cap):=by rw [HI.out,Qex.out];exact (Q47.out W9 k9).d1
    have fg:=(Q47.out W9 k9).fg (off+i*3+1);have Qbc:=Qf0.out.setAt HN.out k9 1 (.slice a8 m2 c8) (by omega) ⟨f.name,a8,c8,f.data++p,f.lasts⟩ (by rw [Qyp.out];rfl) rfl ⟨Qfw,by have:=HF.out.2;show f.lasts<=(f.data++p).length;rw [List.length_append];omega⟩ (λk hk=> .inr (Gc.out k hk)) (Q6a.out _ _);rw [<-HI.out] at Qbc;clear Q2d Qfw;go_wp2_with fail
    intro nq;obtain ⟨V9,Qv3⟩: ∃W,W=(W9.setCell ⟨g,off+i*3+1,none⟩ (.slice a8 m2 c8)).drewN nq:=⟨_,rfl⟩;have HRn:=zz (show Yw w V9 r s.room (leftOf s.Jo) _ _ G by rw [Qv3];exact Qbc.no ((Kp.refl No _).drewN nq));rw [<-Qv3];clear Qbc d1 fg Qv3;have hd:=Q1d V9 r s.room (leftOf s.Jo) _ _ HRn.out.c;rw [<-Cj H0.out] at hd;have HD:=zz hd;clear hd;go_wp2_with fail
    refine HD.out.mono ?_;rintro e wd ⟨rfl,hcd,hkd⟩;have Qze:=zz (HRn.out.Hb hcd hkd);clear hcd hkd HD;go_wp2_with fail
    go_ret
    rw [Gy,Qjx H0.out Qik.out HE.out];exact Yw.stop (s:={s with Jo:=s.Jo.map (· - 1),files:=_}) Qze.out (Qs6.out _ _)
  |is L1 f L2 hL hk=>
   have hga:Qs s.files name=some ⟨f.data,f.lasts⟩:=by rw [<-Xv HP.out HR3.out.c.sorted.keys,<-hk,hL];exact Qb1 (by rw [<-hL];exact HR3.out.c.sorted) rfl
   have HE:=zz (show Zr s name p=0 by
    unfold Zr;rw [if_neg];rintro (h|⟨h,_⟩)
    ·rw [Hp.out] at h;have:=Qyw.out;omega
    ·rw [hga] at h;cases h)
   have HL:=zz hL
   have Qs6:Hid (∀a c,(Zh (L1++⟨f.name,a,c,f.data++p,f.lasts⟩::L2)).Perm (Jg s.files name p)):=zz (λa c=>by
    have h1:=HR3.out.c.sorted;have h2:=HP.out;rw [hL] at h1 h2;unfold Jg;rw [hga,<-hk];exact Q3s h1 h2 rfl)
   have Q6a:Hid (∀a c,Jw (Zh (L1++⟨f.name,a,c,f.data++p,f.lasts⟩::L2))<=s.room):=zz λa c=>by
    have h1:=Qyw.out;rw [HT.out,hL] at h1;rw [Fs] at h1⊢;rw [List.length_append];omega
   obtain ⟨ra,Yp,Qa2,hrc,hrd⟩:=HR3.out.c.row.rd;have c1: ∀W,Kp No w3 W->W.cell? ⟨r,1,none⟩=some (.slice ra L.length Yp):=λW hW=>by rw [Q4 (HR3.out.c.Q9 hW).cell,Qa2];rfl
   have c0: ∀W,Kp No w3 W->W.cell? ⟨r,0,none⟩=some (.int .i64 (s.room:Int)):=λW hW=>by rw [Q4 (HR3.out.c.Q9 hW).cell];rfl
   have rl:r<w3.heap.size:=Q7 HR3.out.c.cell;have Oy:=zz c1;clear htot hlen hT hga hk hrd;go_wp2_with fail
   refine zD No [0,2,0,0,0,0,0,0,0,0,0,0,0,0,0,0,0,0,0,0,0,0] [0,2,3,5,6,7,8,1,4,9,10,11,12,13,14,15,16,17,18,19,20,21] ?_;repeat (first|refine zA ?_|refine zB ?_|refine zC ?_)
   refine Q8 rfl rfl (λn1=>?_);go_wp2_with fail
   refine (HU.out n1).mono ?_;rintro e w4 ⟨rfl,hk4⟩;have K4:Kp No w3 w4:=hk4.Qf;clear hk4;go_wp2_with fail
   repeat (first|refine zA ?_|refine zB ?_|refine zC ?_)
   refine Qa (λnq=>?_);obtain ⟨V,hV⟩: ∃W,W=w4.drewN nq:=⟨_,rfl⟩;have Q49:=zz (show Kp No w3 V by rw [hV];exact K4.drewN nq);rw [<-hV];clear hV K4 HU c0 c1;have Qf0:Hid (Yw w V r s.room (leftOf s.Jo) rv (L1++f::L2) G):=zz (by have h1:=HR3.out.no Q49.out;rwa [HL.out] at h1);have Qu7:=zz (λW (hW:Kp No V W) n=>Jai.out (W.drewN n) ((Qf0.out.kp.Qr hW).drewN n));clear HL Qa2;clear rl Oy;obtain ⟨g,off,Yp,n,hn,hlt,hcap,hgr,rfl,hcells⟩:=Qf0.out.c.at_;have HF:=zz (Qf0.out.c.files f (by simp));have HN:=zz hn;have q1: ∀W,Kp No V W->W.cell? ⟨r,1,none⟩=some (.slice (some ⟨g,off,none⟩) n Yp):=λW hW=>(hcells W hW).c1;have q2: ∀W,Kp No V W->W.cell? ⟨g,off+L1.length*3+1,none⟩=some (.slice f.a f.data.length f.cap):=λW hW=>(hcells W hW).d1;obtain ⟨i,hi⟩: ∃i,i=L1.length:=⟨_,rfl⟩;rw [<-hi] at hlt q2⊢;have HI:=zz hi;have Q47:=zz hcells;have rl:=(hcells V zK).rl;have gl:=(hcells V zK).gl;obtain ⟨m,hm⟩: ∃m,m=f.data.length:=⟨_,rfl⟩;rw [<-hm] at q2;have Qex:=zz hm
   have hmm:m<=1073741824:=by
    have h1:=Qf0.out.c.fits;have h2:=Qf0.out.c.roomy;rw [Fs] at h1;omega
   clear hn hi hcells hm;go_upto_region 11 with fail
   refine Jk (Kp No V) [0,0,0,0,0,2,0,0,0,0,0,0,0,0,2,0,2,0,0,2] [0,1,2,3,4,6,7,8,9,10,11,12,13,15,5,14,16,17,18] 19 (by kernel_rfl) (by kernel_rfl) (λ_ n h=>h.drewN n) zK ?_;repeat (first|refine zA ?_|refine zB ?_|refine zC ?_)
   refine Q8 rfl rfl (λn1=>?_);go_wp2_with fail
   obtain ⟨W6,Q75⟩: ∃W,W=(V.drewN n1).alloc (.cells #[] 5):=⟨_,rfl⟩;have k6:Kp No V W6:=by rw [Q75];exact (zK.drewN _).alloc _
   have Ib:Own W6 5 1 (.slice (some ⟨V.heap.size,0,none⟩) 0 0) 0 []:=by rw [Q75];exact Own.made (V.drewN n1) 5 1 #[] 0 0 (Nat.le_refl _) (by simp [maxLen]) (by simp) rfl
   rw [<-Q75];have J5r:=zz Ib;clear Q75 Ib;refine ⟨k6,?_⟩;refine Q8 rfl rfl (λn2=>?_);obtain ⟨a7,c7,W7,hrun,Qa1,Ca,hb7⟩:=Mu (W6.drewN n2) V.heap.size (J5r.out.drewN n2) f.data f.a f.cap ((HF.out.1.rd').kp (k6.drewN n2)) (by have:=Qex.out;omega);rw [<-Qex.out] at hrun;have k7:Kp No V W7:=(k6.drewN n2).trans Ca (λk hk (e:k=V.heap.size)=>by omega);have Bt:=zz hrun;have Qor:=zz Qa1;have Cw:=zz hb7;have hs6:V.heap.size<=(W6.drewN n2).heap.size:=k6.size;have hs7:(W6.drewN n2).heap.size<=W7.heap.size:=Ca.size;clear hrun Qa1 Ca hb7;refine wpList_append_run rfl rfl rfl rfl Bt.out (wpList_nil ⟨rfl,k7,?_⟩);clear Bt;refine Q8 rfl rfl (λn3=>?_);obtain ⟨a8,c8,W8,hrun,Qsz,hk8,hb8⟩:=Eb (W7.drewN n3) (.slice a7 f.data.length c7) f.data p (Qor.out.drewN n3) pa pc (Qu7.out W7 k7 n3) (by have:=Qex.out;omega)
   have k8:Kp No V W8:=(k7.drewN n3).trans hk8 (λk hk hs=>by
    rcases Cw.out k hs with h1|h1
    ·omega
    ·omega)
   obtain ⟨m2,hm2⟩: ∃m2,m2=(f.data++p).length:=⟨_,rfl⟩;rw [<-hm2,<-Qex.out] at hrun;have Qi0:=zz hrun;have Qz0:=zz Qsz
   have Gc:=zz (show ∀k,(Value.slice a8 (f.data++p).length c8).ownBlock=some k->V.heap.size<=k from λk hk=>by
    rcases hb8 with h1|⟨g',h1,h2⟩
    ·rw [h1] at hk;rcases Cw.out k hk with h3|h3
     ·omega
     ·omega
    ·rw [h1] at hk;injection hk with hk;have h3:(W7.drewN n3).heap.size=W7.heap.size:=rfl;omega)
   have Qyp:=zz hm2;clear hrun Qsz hk8 hb8 hm2;refine wpList_append_run rfl rfl rfl rfl Qi0.out (wpList_nil ⟨rfl,k8,?_⟩);clear Qi0 q1 q2;repeat (first|refine zA ?_|refine zB ?_|refine zC ?_)
   refine Yu (λn4=>?_);refine Q8 rfl rfl (λn5=>?_);obtain ⟨W9,Q2d⟩: ∃W,W=(W8.drewN n4).drewN n5:=⟨_,rfl⟩;have k9:Kp No V W9:=by rw [Q2d];exact (k8.drewN n4).drewN n5
   have Qfw:Own W9 5 1 (.slice a8 (f.data++p).length c8) (f.data++p).length (u8s (f.data++p)):=by rw [Q2d];exact Qz0.out
   rw [<-Q2d];have d1:W9.cell? ⟨g,off+i*3+1,none⟩=some (.slice f.a m f.cap):=by rw [HI.out,Qex.out];exact (Q47.out W9 k9).d1
   have fg:=(Q47.out W9 k9).fg (off+i*3+1);have Qbc:=Qf0.out.setAt HN.out k9 1 (.slice a8 m2 c8) (by omega) ⟨f.name,a8,c8,f.data++p,f.lasts⟩ (by rw [Qyp.out];rfl) rfl ⟨Qfw,by have:=HF.out.2;show f.lasts<=(f.data++p).length;rw [List.length_append];omega⟩ (λk hk=> .inr (Gc.out k hk)) (Q6a.out _ _);rw [<-HI.out] at Qbc;clear Q2d Qfw;go_wp2_with fail
   intro nq;obtain ⟨V9,Qv3⟩: ∃W,W=(W9.setCell ⟨g,off+i*3+1,none⟩ (.slice a8 m2 c8)).drewN nq:=⟨_,rfl⟩;have HRn:=zz (show Yw w V9 r s.room (leftOf s.Jo) _ _ G by rw [Qv3];exact Qbc.no ((Kp.refl No _).drewN nq));rw [<-Qv3];clear Qbc d1 fg Qv3;have hd:=Q1d V9 r s.room (leftOf s.Jo) _ _ HRn.out.c;rw [<-Cj H0.out] at hd;have HD:=zz hd;clear hd;go_wp2_with fail
   refine HD.out.mono ?_;rintro e wd ⟨rfl,hcd,hkd⟩;have Qze:=zz (HRn.out.Hb hcd hkd);clear hcd hkd HD;go_wp2_with fail
   go_ret
   rw [Gy,Qjx H0.out Qik.out HE.out];exact Yw.stop (s:={s with Jo:=s.Jo.map (· - 1),files:=_}) Qze.out (Qs6.out _ _)
end Go.Proofs.YtgnkmjeoaoongaaGreatDoor
