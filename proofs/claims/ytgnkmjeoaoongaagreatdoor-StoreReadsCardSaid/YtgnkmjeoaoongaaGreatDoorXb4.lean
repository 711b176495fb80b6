/-
  RD1, RD2, RWalk, RWrite.
-/
import Derived.Test.YtgnkmjeoaoongaaGreatDoorXb1
set_option maxRecDepth 100000
set_option maxHeartbeats 2000000
namespace Go.Proofs.YtgnkmjeoaoongaaGreatDoor
open Go.RowKit Go.Mer
theorem Q62 (w:World) (r room:Nat) (left:Int) (rv:Value) (L:List Qj) (h:RC w r room left rv L) (na:Option Addr) (nc:Nat) (ns:List ByteArray) (hns:Rd w w.heap.size na (ns.map Value.string)) (hnl:ns.length<=1000):
  Calls Tryz.prog 223 #[.pointer (some ⟨r,0,none⟩), .slice na ns.length nc] w λe w'=>e= .returned (.int .i64 (if left=0 then 9 else if ns.all Jh=true then 0 else 1))/\Kp No w w':=by
 obtain ⟨ra,Y5,rfl,hrc,hrd⟩:=h.row.rd;have c0:=Q0 h.cell 0;have c1:=Q0 h.cell 1;have c2:=Q0 h.cell 2;have hrl:=Q3 h.cell;simp at c0 c1 c2
 have HN:=zz hns;clear h hns c0 c1 hrd hrc;obtain ⟨q,hq⟩: ∃q:Int,q=if left=0 then 9 else if ns.all Jh=true then 0 else 1:=⟨_,rfl⟩
 rw [<-hq];by_cases h0:left=0
 ·subst h0;have HE:=zz hq;clear hq;go_enter Tryz.func223,Tryz.ntmps223
  go_wp2_with fail
  go_ret
  exact ⟨by rw [HE.out];rfl,Kp.refl _ _⟩
 ·have f0:(left==0)=false:=by simpa using h0
  rw [if_neg h0] at hq;have HE:=zz hq;clear h0 hq;go_enter Tryz.func223,Tryz.ntmps223
  go_wp2_with fail
  rename World=>w0;go_loopw [5] (λi wr=> ∃k:Nat,k<=ns.length/\i= .int .i64 (k:Int)/\Hid ((ns.take k).all Jh=true)/\Hid (Kp No w0 wr)) (λi _=>ns.length-(intOf i).toNat)
  case atStart=>exact ⟨0,Nat.zero_le _,rfl,zz (by simp),zz zK⟩
  case round=>
   obtain ⟨k,hk,rfl,HA,Dp⟩:=hrel;by_cases hlt:k<ns.length
   ·obtain ⟨g,off,rfl,hg,_,hc⟩:=(HN.out.keep Dp.out λ_ _ x=>x).at_ (i:=k) (u:= .string ns[k]) (by simp [hlt]);have hgl:g<wr.heap.size:=Nat.lt_of_lt_of_le hg Dp.out.size;have HT:=zz (List.take_succ_eq_append_getElem hlt);have Q04:=zz (show ns[k]∈ns from List.getElem_mem hlt);by_cases h1:ns[k].size<1
    ·have hno:ns.all Jh=false:=by
      rw [List.all_eq_false];exact ⟨ns[k],Q04.out,by simp [Jh];omega⟩
     have Qeg:=zz hno;clear hno HT HA;go_wp2_with fail
     go_ret
     exact ⟨by rw [HE.out,Qeg.out];rfl,Dp.out⟩
    ·by_cases h2:64<ns[k].size
     ·have hno:ns.all Jh=false:=by
       rw [List.all_eq_false];exact ⟨ns[k],Q04.out,by simp [Jh];omega⟩
      have Qeg:=zz hno;clear hno;go_wp2_with fail
      go_ret
      exact ⟨by rw [HE.out,Qeg.out];rfl,Dp.out⟩
     ·have HA2:Hid ((ns.take (k+1)).all Jh=true):=zz (by
       rw [HT.out,List.all_append,HA.out];simp [Jh]
       omega)
      go_wp2_with fail
      go_roundw
      case rel=>exact ⟨k+1,by omega,by go_num,HA2,Dp⟩
      case measure=>simp [intOf];omega
   ·obtain rfl:k=ns.length:=by omega
    have hal:=HA.out;rw [List.take_length] at hal;have Ht:=zz hal;clear hal hlt;go_wp2_with fail
    go_ret
    exact ⟨by rw [HE.out,Ht.out];rfl,Dp.out⟩
theorem Ic {f:Option Nat} (hf:f≠some 0):leftOf (f.map (· - 1))=if 0<leftOf f then leftOf f-1 else leftOf f:=by
 cases f with
 |none=>rfl
 |some n=>
  show ((n-1:Nat):Int)=if 0<(n:Int) then (n:Int)-1 else (n:Int)
  have:0<n:=by
   rcases Nat.eq_zero_or_pos n with rfl|h
   ·exact absurd rfl hf
   ·exact h
  rw [if_pos (by omega)];omega
theorem Ac (w:World) (r room:Nat) (left:Int) (rv:Value) (L:List Qj) (h:RC w r room left rv L):
  Calls Tryz.prog 225 #[.pointer (some ⟨r,0,none⟩)] w λe w'=>e= .returned (.int .i64 0)/\RC w' r room (if 0<left then left-1 else left) rv L/\Kp (One r) w w':=by
 have hrow:=h.row.rd;obtain ⟨ra,Y5,rfl,_,_⟩:=hrow;have c2:=Q0 h.cell 2;have f2:=Qc h.cell 2;have hrl:=Q3 h.cell;simp at c2
 have hl0:=h.left0;have Jar:=h.Mq;by_cases h0:0<left
 ·have hk:Kp (One r) w (w.setCell ⟨r,2,none⟩ (.int .i64 (left-1))):=(Kp.refl (One r) _).setCell (p:=⟨r,2,none⟩) (.inl rfl) _;have h2:=h.L4 (left-1) (by omega) (by omega) hk (by have:=Qh h.cell 2 (.int .i64 (left-1));simpa using this);have H2:=zz h2;have HK:=zz hk;clear h h2 hk;go_enter Tryz.func225,Tryz.ntmps225
  go_wp2_with fail
  go_ret
  exact ⟨rfl,H2.out,HK.out⟩
 ·have H2:=zz h;clear h;go_enter Tryz.func225,Tryz.ntmps225
  go_wp2_with fail
  go_ret
  exact ⟨rfl,H2.out,Kp.refl _ _⟩
theorem Qcw (L:List Qj) {j:Nat} (h:j<L.length):Jl (Z5 (L.take (j+1)))=Jl (Z5 (L.take j))+L[j].data.length:=by
 rw [List.take_succ_eq_append_getElem h];unfold Z5;rw [List.map_append,Vd];rfl
theorem Qmu (L:List Qj) (j:Nat):Jl (Z5 (L.take j))<=Jl (Z5 L):=by
 conv=>rhs;rw [<-List.take_append_drop j L]
 unfold Z5;rw [List.map_append,Vd];omega
theorem Qci (w:World) (r room:Nat) (left:Int) (rv:Value) (L:List Qj) (h:RC w r room left rv L):
  Calls Tryz.prog 251 #[.pointer (some ⟨r,0,none⟩)] w λe w'=>e= .returned (.int .i64 (Jl (Z5 L):Int))/\Kp No w w':=by
 obtain ⟨ra,Y5,rfl,hrc,hrd⟩:=h.row.rd;have Lj:=zz (show ∀W,Kp No w W->W.cell? ⟨r,1,none⟩=some (.slice ra L.length Y5)/\r<W.heap.size from λW hW=>⟨by rw [Q0 (hW.get h.cell λx=>x)];rfl,Q3 (hW.get h.cell λx=>x)⟩);have M8:=zz hrd;have HB:=zz (show Jl (Z5 L)<=1073741824 from Nat.le_trans h.fits h.roomy);have hfew:=h.few;obtain ⟨T,hT⟩: ∃T,T=Jl (Z5 L):=⟨_,rfl⟩;rw [<-hT];have HT:=zz hT;clear h hrd hT;go_enter Tryz.func251,Tryz.ntmps251
 go_wp2_with fail
 rename World=>w0;go_loopw [3,4] (λs i wr=> ∃j N:Nat,j<=L.length/\i= .int .i64 (j:Int)/\s= .int .i64 (N:Int)/\Hid (N=Jl (Z5 (L.take j)))/\Hid (Kp No w0 wr)) (λ_ i _=>L.length-(intOf i).toNat)
 case atStart=>exact ⟨0,0,Nat.zero_le _,rfl,rfl,zz rfl,zz zK⟩
 case round=>
  obtain ⟨j,N,hj,rfl,rfl,HN,Dp⟩:=hrel;obtain ⟨c1,hrl⟩:=Lj.out _ Dp.out;by_cases hlt:j<L.length
  ·obtain ⟨g,off,rfl,l0⟩:=Ye (f:=Qj.cells) (c:=3) Qj.Y9 (by decide) M8.out hlt;have d1:=l0 _ Dp.out 1 _ rfl;have hgl:g<wr.heap.size:=World.block_lt_of_cell? wr _ d1;have hst:=Qcw L hlt;have hle:=Qmu L (j+1);have hb:=HB.out;obtain ⟨n,hn⟩: ∃n,n=L[j].data.length:=⟨_,rfl⟩;rw [<-hn] at d1 hst;have Qnj:Hid (N+n=Jl (Z5 (L.take (j+1)))):=zz (by have:=HN.out;omega);have hsm:N+n<=1073741824:=by have:=HN.out;omega
   clear l0 hst hle hb hn;go_wp2_with fail
   go_roundw
   case rel=>exact ⟨j+1,N+n,by omega,by go_num,by go_num,Qnj,Dp⟩
   case measure=>simp [intOf];omega
  ·obtain rfl:j=L.length:=by omega
   have hN:=HN.out;rw [List.take_length,<-HT.out] at hN;subst hN;clear hlt;go_wp2_with fail
   go_ret
   exact ⟨rfl,Dp.out⟩
structure Yi (w W:World) (r room:Nat) (left:Int) (rv:Value) (L:List Qj) (G:Nat->Prop):Prop where
 c:RC W r room left rv L
 foot: ∀k,Qex r rv L k->G k\/w.heap.size<=k
 kp:Kp G w W
section
variable {w W W':World} {r room:Nat} {left left':Int} {rv rv':Value} {L L' L1 L2:List Qj} {G:Nat->Prop} {f f':Qj}
theorem Yi.step {S:Nat->Prop} (h:Yi w W r room left rv L G) (hk:Kp S W W') (hS: ∀k,S k->Qex r rv L k\/W.heap.size<=k) (hc:RC W' r room left' rv' L') (hf: ∀k,Qex r rv' L' k->Qex r rv L k\/W.heap.size<=k):Yi w W' r room left' rv' L' G:=by
 have hsz:=h.kp.size;refine ⟨hc,λk hk'=>?_,h.kp.trans hk λi hi hs=>?_⟩
 ·rcases hf k hk' with h1|h1
  ·exact h.foot k h1
  ·exact .inr (Nat.le_trans hsz h1)
 ·rcases hS i hs with h1|h1
  ·rcases h.foot i h1 with h2|h2
   ·exact h2
   ·omega
  ·omega
theorem Yi.step2 {S:Nat->Prop} (h:Yi w W r room left rv L G) (hk:Kp S W W') (hS: ∀k,S k->Qex r rv L k\/W.heap.size<=k) (hc:RC W' r room left' rv' L') (hf: ∀k,Qex r rv' L' k->G k\/w.heap.size<=k):Yi w W' r room left' rv' L' G:=by
 have hsz:=h.kp.size;refine ⟨hc,hf,h.kp.trans hk λi hi hs=>?_⟩;rcases hS i hs with h1|h1
 ·rcases h.foot i h1 with h2|h2
  ·exact h2
  ·omega
 ·omega
theorem Yi.no (h:Yi w W r room left rv L G) (hk:Kp No W W'):Yi w W' r room left rv L G:=h.step hk (λ_ x=>x.elim) (h.c.Q5 hk) (λ_ x=> .inl x)
theorem Yi.start {s:Qu} (h:Di w r s G): ∃rv L,Yi w w r s.room (leftOf s.Zg) rv L G/\(Z5 L).Perm s.files/\ ∀k,G k->k<w.heap.size:=by
 obtain ⟨rv,L,h1,h2,h3,h4⟩:=h;exact ⟨rv,L,⟨h1,λk hk=> .inl (h3 k hk),Kp.refl _ _⟩,h2,h4⟩
theorem Yi.stop {q:Int} {s:Qu} (h:Yi w W r s.room (leftOf s.Zg) rv L G) (hp:(Z5 L).Perm s.files):Qf1 w r G (q,s) (.returned (.int .i64 q)) W:=
 ⟨rfl,Qex r rv L,⟨rv,L,h.c,hp,λ_ x=>x,h.c.lt⟩,h.foot,h.kp⟩
theorem Yi.L4 (h:Yi w W r room left rv L G) (hc:RC W' r room left' rv L) (hk:Kp (One r) W W'):Yi w W' r room left' rv L G:=
 h.step hk (λk (e:k=r)=> .inl (.inl e)) hc (λ_ x=> .inl x)
theorem Yi.turn (h:Yi w W r room left rv (L1++f::L2) G) (hn:f'.name=f.name) (hk:Kp (λk=>rv.ownBlock=some k) W W') (hrow:Own W' 170 3 rv (L1++f'::L2).length ((L1++f'::L2).flatMap Qj.cells)) (hok:U9 W' f')
  (hfo: ∀g,f'.val.ownBlock=some g->f.val.ownBlock=some g\/W.heap.size<=g) (hfit:Jl (Z5 (L1++f'::L2))<=room):Yi w W' r room left rv (L1++f'::L2) G:=by
 have hc:=h.c;have hlen:(L1++f'::L2).length=(L1++f::L2).length:=by simp
 have hother: ∀g,g∈L1\/g∈L2->U9 W' g:=λg hg=>by
  have hg':g∈L1++f::L2:=by rcases hg with hg|hg<;>simp [hg]
  exact (hc.files g hg').keep hk λk hk1 hk2=>(hc.Q26 hg' hk1).2 hk2
 refine h.step hk (λk hk'=> .inl (.inr (.inl hk'))) ⟨hk.get hc.cell λhr=>hc.row_ne hr rfl,hrow,λg hg=>?_,Q6a hc.sorted hn,hfit,hc.roomy,by rw [hlen];exact hc.few,hc.left0,hc.Mq⟩ λk hk'=>?_
 ·rcases List.mem_append.1 hg with hg|hg
  ·exact hother g (.inl hg)
  ·rcases List.mem_cons.1 hg with rfl|hg
   ·exact hok
   ·exact hother g (.inr hg)
 ·rcases hk' with hk'|hk'|⟨g,hg,hk'⟩
  ·exact .inl (.inl hk')
  ·exact .inl (.inr (.inl hk'))
  ·rcases List.mem_append.1 hg with hg|hg
   ·exact .inl (.inr (.inr ⟨g,by simp [hg],hk'⟩))
   ·rcases List.mem_cons.1 hg with rfl|hg
    ·rcases hfo k hk' with h1|h1
     ·exact .inl (.inr (.inr ⟨f,by simp,h1⟩))
     ·exact .inr h1
    ·exact .inl (.inr (.inr ⟨g,by simp [hg],hk'⟩))
theorem Yi.row (h:Yi w W r room left rv L G) (hk:Kp (One r) W W') (hcell:W'.heap[r]?=some (.cells #[.int .i64 (room:Int),rv', .int .i64 left] 167 (0,0))) (hrow:Own W' 170 3 rv' L'.length (L'.flatMap Qj.cells))
  (hfresh: ∀g,rv'.ownBlock=some g->Qex r rv L g\/W.heap.size<=g) (Q2g: ∀f∈L',f∈L\/(U9 W' f/\ ∀g,f.val.ownBlock=some g->G g\/w.heap.size<=g)) (hs:Y6 L') (hfit:Jl (Z5 L')<=room) (hfew:L'.length<=4096):
  Yi w W' r room left rv' L' G:=by
 have hc:=h.c;refine h.step2 hk (λk (e:k=r)=> .inl (.inl e)) ⟨hcell,hrow,λg hg=>?_,hs,hfit,hc.roomy,hfew,hc.left0,hc.Mq⟩ λk hk'=>?_
 ·rcases Q2g g hg with h1|⟨h1,_⟩
  ·exact (hc.files g h1).keep hk λk hk1 (e:k=r)=>(hc.Q26 h1 hk1).1 e
  ·exact h1
 ·rcases hk' with hk'|hk'|⟨g,hg,hk'⟩
  ·exact h.foot k (.inl hk')
  ·rcases hfresh k hk' with h1|h1
   ·exact h.foot k h1
   ·exact .inr (Nat.le_trans h.kp.size h1)
  ·rcases Q2g g hg with h1|⟨_,h1⟩
   ·exact h.foot k (.inr (.inr ⟨g,h1,hk'⟩))
   ·exact h1 k hk'
theorem V4 (L1 L2:List Qj):Z5 (L1++L2)=Z5 L1++Z5 L2:=by simp [Z5]
theorem D3 (f:Qj) (L:List Qj):Z5 (f::L)=(f.name,⟨f.data,f.lasts⟩)::Z5 L:=rfl
theorem Ur (L1:List Qj) (f:Qj) (L2:List Qj):Jl (Z5 (L1++f::L2))=Jl (Z5 (L1++L2))+f.data.length:=by
 rw [V4,D3,Vd,E1,V4,Vd];simp only
 omega
theorem Q1i {S:Jo} (hs:Y6 (L1++f::L2)) (hp:(Z5 (L1++f::L2)).Perm S) (hn:f'.name=f.name):(Z5 (L1++f'::L2)).Perm (Qt S f.name ⟨f'.data,f'.lasts⟩):=by
 have h1:=Q17 hp f.name (⟨f'.data,f'.lasts⟩:Ek);have hk:=hs.keys;rw [V4,D3] at h1 hk;rw [Xb hk] at h1;rw [V4,D3,hn];exact h1
theorem Qht {S:Jo} (hs:Y6 (L1++f::L2)) (hp:(Z5 (L1++L2)).Perm S):(Z5 (L1++f::L2)).Perm (Qt S f.name ⟨f.data,f.lasts⟩):=by
 refine List.Perm.trans ?_ (Q17 hp f.name (⟨f.data,f.lasts⟩:Ek));have hk:=hs.keys;rw [V4,D3] at hk⊢;rw [V4];refine Qfx _ λhm=>?_;rw [List.map_append,List.map_cons,List.nodup_append] at hk;rw [List.map_append] at hm;rcases List.mem_append.1 hm with hm|hm
 ·exact hk.2.2 _ hm _ (List.mem_cons_self ..) rfl
 ·exact (List.nodup_cons.1 hk.2.1).1 hm
end
theorem D9:(Tryz.prog.info? 170).map (λi=>((i.zero.map λz=>z.cells.size),i.size,i.bytes))=some (some 3,3,48):=by kernel_rfl
theorem Qmn {W:World} {g off n cap:Nat} {L1 L2:List Qj} {f f':Qj} {j:Nat} {u:Value} (h:Own W 170 3 (.slice (some ⟨g,off,none⟩) n cap) n ((L1++f::L2).flatMap Qj.cells)) (hn:n=(L1++f::L2).length) (hj:j<3) (hu:f.cells.set j u=f'.cells):
  Own (W.setCell ⟨g,off+L1.length*3+j,none⟩ u) 170 3 (.slice (some ⟨g,off,none⟩) n cap) (L1++f'::L2).length ((L1++f'::L2).flatMap Qj.cells):=by
 have hlt:L1.length<(L1++f::L2).length:=by simp
 have h1:=Q34 h (L1.length*3+j) (by rw [hn];simp;omega) u;have hget:(L1++f::L2)[L1.length]=f:=by simp
 rw [I0 Qj.cells 3 Qj.Y9 _ hlt hj (x:=f') (by rw [hget];exact hu)] at h1;have hs:(L1++f::L2).set L1.length f'=L1++f'::L2:=by simp
 rw [hs] at h1;rw [Nat.add_assoc];have e:n=(L1++f'::L2).length:=by rw [hn];simp
 rw [<-e];exact h1
section
variable {w V W:World} {r room n Y5 g off:Nat} {left:Int} {rv:Value} {L1 L2:List Qj} {G:Nat->Prop} {f f':Qj}
structure Qpm (W:World) (r g off n Y5:Nat) (i:Nat) (f:Qj):Prop where
 c1:W.cell? ⟨r,1,none⟩=some (.slice (some ⟨g,off,none⟩) n Y5)
 d0:W.cell? ⟨g,off+i*3,none⟩=some (.string f.name)
 d1:W.cell? ⟨g,off+i*3+1,none⟩=some (.slice f.a f.data.length f.cap)
 d2:W.cell? ⟨g,off+i*3+2,none⟩=some (.int .i64 (f.lasts:Int))
 fr: ∀o,W.frozen? ⟨r,o,none⟩=false
 fg: ∀o,W.frozen? ⟨g,o,none⟩=false
 rl:r<W.heap.size
 gl:g<W.heap.size
theorem RC.at_ (h:RC V r room left rv (L1++f::L2)): ∃g off Y5 n,n=(L1++f::L2).length/\L1.length<n/\n<=Y5/\g≠r/\rv= .slice (some ⟨g,off,none⟩) n Y5/\ ∀W,Kp No V W->Qpm W r g off n Y5 L1.length f:=by
 obtain ⟨ra,Y5,rfl,hrc,hrd⟩:=h.row.rd;obtain ⟨g,off,rfl,hgl,_⟩:=h.row.place (by simp;omega);have hlt:L1.length<(L1++f::L2).length:=by simp
 have hget:(L1++f::L2)[L1.length]=f:=by simp
 obtain ⟨g',off',hg',hc⟩:=Ye (f:=Qj.cells) (c:=3) Qj.Y9 (by decide) hrd hlt;injection hg' with hg';injection hg' with e1 e2;subst e1;subst e2;rw [hget] at hc;refine ⟨g,off,Y5,_,rfl,hlt,hrc,h.row_ne rfl,rfl,λW hW=>?_⟩;have hC:=h.Q5 hW;obtain ⟨_,_,hgg,Ql2,hfz⟩:=hC.row.place (by simp;omega);injection hgg with hgg;injection hgg with e1 _;subst e1;refine ⟨by rw [Q0 hC.cell];rfl,?_,hc W hW 1 _ rfl,hc W hW 2 _ rfl,λo=>Qc hC.cell o,hfz,Q3 hC.cell,Ql2⟩;have:=hc W hW 0 _ rfl;rwa [Nat.add_zero] at this
theorem Yi.setAt (h:Yi w V r room left (.slice (some ⟨g,off,none⟩) n Y5) (L1++f::L2) G) (hn:n=(L1++f::L2).length) (hW:Kp No V W) (j:Nat) (u:Value) (hj:j<3) (f':Qj) (hu:f.cells.set j u=f'.cells) (hnm:f'.name=f.name) (hok:U9 W f')
  (hfo: ∀k,f'.val.ownBlock=some k->f.val.ownBlock=some k\/V.heap.size<=k) (hfit:Jl (Z5 (L1++f'::L2))<=room):
  Yi w (W.setCell ⟨g,off+L1.length*3+j,none⟩ u) r room left (.slice (some ⟨g,off,none⟩) n Y5) (L1++f'::L2) G:=by
 have hC:=h.c.Q5 hW;have hs:Kp (One g) W (W.setCell ⟨g,off+L1.length*3+j,none⟩ u):=(Kp.refl (One g) _).setCell (p:=⟨g,off+L1.length*3+j,none⟩) (.inl rfl) u;have hrow:Own W 170 3 (.slice (some ⟨g,off,none⟩) n Y5) n ((L1++f::L2).flatMap Qj.cells):=by have:=hC.row;rwa [<-hn] at this
 obtain ⟨cur,hcur⟩:=hrow.type g rfl;refine h.turn hnm ((Kp.of_no hW).trans hs λk _ (e:k=g)=>by show some g=some k;rw [e]) (Qmn hrow hn hj hu) (hok.keep hs λk hk (e:k=g)=>?_) hfo hfit;obtain ⟨cur',hcur'⟩:=hok.1.type k hk;exact Q7 hcur' hcur (by decide) e
end
theorem Yi.laid {w V w9:World} {r room N c9:Nat} {left:Int} {rv:Value} {a9:Option Addr} {L Q:List Qj} {G:Nat->Prop} (h:Yi w V r room left rv L G) (hm:Qq 170 3 Qj.cells V w9 (.slice a9 N c9) N Q)
  (Q2g: ∀f∈Q,f∈L\/(U9 w9 f/\ ∀g,f.val.ownBlock=some g->G g\/w.heap.size<=g)) (hs:Y6 Q) (hfit:Jl (Z5 Q)<=room) (hfew:Q.length<=4096):
  Yi w (w9.setCell ⟨r,1,none⟩ (.slice a9 N c9)) r room left (.slice a9 N c9) Q G/\w9.cell? ⟨r,1,none⟩=some rv/\w9.frozen? ⟨r,1,none⟩=false/\r<w9.heap.size:=by
 have hk9:=hm.2.2.2;have Qjk:=(h.c.Q5 hk9).cell;have hs9:Kp (One r) w9 (w9.setCell ⟨r,1,none⟩ (.slice a9 N c9)):=(Kp.refl (One r) _).setCell (p:=⟨r,1,none⟩) (.inl rfl) _;have hrl:r<V.heap.size:=Q3 h.c.cell;refine ⟨h.row ((Kp.of_no hk9).trans_same hs9) ?_ ?_ (λg hg=> .inr (hm.2.2.1 g hg)) (λf hf=>?_) hs hfit hfew,?_,Qc Qjk _,Q3 Qjk⟩
 ·have:=Qh Qjk 1 (.slice a9 N c9);simpa using this
 ·have h1:=hm.2.1.keep hs9 λg hg (e:g=r)=>by have:=hm.2.2.1 g hg;omega
  have e:=hm.1;rw [e] at h1⊢;exact h1
 ·rcases Q2g f hf with h1|⟨h1,h2⟩
  ·exact .inl h1
  ·refine .inr ⟨h1.keep hs9 λg hg (e:g=r)=>?_,h2⟩;obtain ⟨cur,hcur⟩:=h1.1.type g hg;exact Q7 hcur Qjk (by decide) e
 ·rw [Q0 Qjk];rfl
theorem Qnt {s:Qu} (h:s.Zg=some 0) (ns:List ByteArray) (c:Int) (fs:Jo):five s ns c fs=(9,s):=by simp [five,h]
theorem Qns {s:Qu} (h:s.Zg≠some 0) {ns:List ByteArray} (hn:ns.all Jh=false) (c:Int) (fs:Jo):five s ns c fs=(1,s):=by simp [five,h,hn]
theorem Qfo {s:Qu} (h:s.Zg≠some 0) {ns:List ByteArray} (hn:ns.all Jh=true) {c:Int} (hc:c≠0) (fs:Jo):five s ns c fs=(c,s):=by simp [five,h,hn,hc]
theorem Qfn {s:Qu} (h:s.Zg≠some 0) {ns:List ByteArray} (hn:ns.all Jh=true) {c:Int} (hc:c=0) (fs:Jo):five s ns c fs=(0,{s with Zg:=s.Zg.map (· - 1),files:=fs}):=by simp [five,h,hn,hc]
theorem Q1c (f:Option Nat):leftOf f=0↔f=some 0:=by
 cases f with
 |none=>simp [leftOf]
 |some n=>simp [leftOf]
def Q5i (f:Option Nat) (ns:List ByteArray):Int:=if leftOf f=0 then 9 else if ns.all Jh=true then 0 else 1
theorem Bv (f:Option Nat) (ns:List ByteArray):(f=some 0/\Q5i f ns=9)\/(f≠some 0/\ns.all Jh=false/\Q5i f ns=1)\/(f≠some 0/\ns.all Jh=true/\Q5i f ns=0):=by
 unfold Q5i;by_cases h:f=some 0
 ·exact .inl ⟨h,if_pos ((Q1c f).2 h)⟩
 ·rw [if_neg (λe=>h ((Q1c f).1 e))];cases hn:ns.all Jh with
  |false=>exact .inr (.inl ⟨h,rfl,rfl⟩)
  |true=>exact .inr (.inr ⟨h,rfl,rfl⟩)
end Go.Proofs.YtgnkmjeoaoongaaGreatDoor
namespace Go.Mer
open Go Go.RowKit
theorem Rd.Q2r {S:Nat->Prop} {w w':World} {B:Nat} {a:Option Addr} {xs:List Value} (h:Rd w B a xs) (hk:Kp S w w') (hS:0<xs.length-> ∀k o,a=some ⟨k,o,none⟩-> ¬S k):Rd w' w'.heap.size a xs:=λhx=>by
 obtain ⟨g,off,rfl,hg,hB,hc⟩:=h hx;have hgl:g<w.heap.size:=by omega
 refine ⟨g,off,rfl,hk.lt hgl,Nat.le_refl _,λj u hu=>?_⟩;exact (hk.cell (p:=⟨g,off+j,none⟩) hgl (hS hx g off rfl)).trans (hc j u hu)
end Go.Mer
namespace Go.Proofs.YtgnkmjeoaoongaaGreatDoor
open Go.RowKit Go.Mer
theorem Nr (w:World) (r:Nat) (s:Qu) (G:Nat->Prop) (h:Di w r s G) (name:ByteArray) (pa:Option Addr) (pc:Nat) (p:List UInt8) (Qye:Rd w w.heap.size pa (u8s p)) (hpm:p.length<=1073741824) (Q08:0<(u8s p).length-> ∀k o,pa=some ⟨k,o,none⟩-> ¬G k):
  Calls Tryz.prog 198 #[.pointer (some ⟨r,0,none⟩), .string name, .slice pa p.length pc] w (Qf1 w r G (Lh s name p)):=by
 have J3s:=zz (λW (hW:Kp G w W)=>Qye.Q2r hW Q08);clear Qye Q08;obtain ⟨rv,L,hR,hp,Ub⟩:=Yi.start h;obtain ⟨W1,hW1⟩: ∃W,W=w.alloc (.cells #[.string name] 9):=⟨_,rfl⟩;have k1:Kp No w W1:=by rw [hW1];exact zK.alloc _
 have hR1:=hR.no k1;have hm:=Q62 W1 r s.room (leftOf s.Zg) rv L hR1.c (some ⟨w.heap.size,0,none⟩) 1 [name] (by rw [hW1];exact De w name) (by simp);rw [show (if leftOf s.Zg=0 then (9:Int) else if ([name]:List ByteArray).all Jh=true then 0 else 1)=Q5i s.Zg [name] from rfl] at hm;have hq:=Bv s.Zg [name];obtain ⟨q,hq0⟩: ∃q,q=Q5i s.Zg [name]:=⟨_,rfl⟩;rw [<-hq0] at hm hq;have HM:=zz hm;have HQ:=zz hq;have HP:=zz hp;have HR1:=zz hR1;have HW1:=zz hW1;skip
 clear hm hq hp hR1 hW1 k1 hR Ub h hq0;go_enter Tryz.func198,Tryz.ntmps198
 go_wp2_with fail
 rw [<-HW1.out];refine HM.out.mono ?_;rintro e w2 ⟨rfl,hk2⟩;have HR2:=zz (HR1.out.no hk2);clear hk2 HM;rcases HQ.out with ⟨h0,rfl⟩|⟨h0,hns,rfl⟩|⟨h0,hns,rfl⟩
 ·
  have H0:=zz h0;clear h0;go_wp2_with fail
  go_ret
  rw [Lh,Qnt H0.out];exact HR2.out.stop HP.out
 ·
  have H0:=zz h0;have Qeh:=zz hns;clear h0 hns;go_wp2_with fail
  go_ret
  rw [Lh,Qns H0.out Qeh.out];exact HR2.out.stop HP.out
 have H0:=zz h0;have Qeh:=zz hns;clear h0 hns HQ HR1 HW1;have hs:=Ii w2 r s.room (leftOf s.Zg) rv L HR2.out.c name;have Ls:=zz hs;clear hs;go_wp2_with fail
 refine Ls.out.mono ?_;rintro e w3 ⟨i,b,rfl,hsp,hk3⟩;have HR3:=zz (HR2.out.no hk3);clear hk3 Ls HR2;have HU:=zz (λn=>Qci (w3.drewN n) r s.room (leftOf s.Zg) rv L (HR3.out.c.Q5 (zK.drewN n)));have htot:Jl s.files=Jl (Z5 L):=(Q1p HP.out).symm;have hlen:s.files.length=L.length:=by rw [<-HP.out.length_eq];simp [Z5]
 obtain ⟨T,hT⟩: ∃T,T=Jl (Z5 L):=⟨_,rfl⟩;rw [<-hT] at HU htot;have Jan:T<=1073741824:=by rw [hT];exact Nat.le_trans HR3.out.c.fits HR3.out.c.roomy
 have hrb:=HR3.out.c.roomy;have hfew:=HR3.out.c.few;have Q7f:=zz htot;have Qxs:=zz hlen;have HT:=zz hT;obtain ⟨room,hroom⟩: ∃x:Int,x=(s.room:Int):=⟨_,rfl⟩;by_cases hfull:s.room<T+p.length
 ·have f1:decide ((s.room:Int)<(T:Int)+(p.length:Int))=true:=by simp;omega
  have HE:=zz (show Yo s name p=6 by unfold Yo;rw [if_pos (.inl (by rw [Q7f.out];exact hfull))]);obtain ⟨ra,Y5,Q70,hrc,hrd⟩:=HR3.out.c.row.rd;have c1: ∀W,Kp No w3 W->W.cell? ⟨r,1,none⟩=some (.slice ra L.length Y5):=λW hW=>by rw [Q0 (HR3.out.c.Q5 hW).cell,Q70];rfl
  have c0: ∀W,Kp No w3 W->W.cell? ⟨r,0,none⟩=some (.int .i64 (s.room:Int)):=λW hW=>by rw [Q0 (HR3.out.c.Q5 hW).cell];rfl
  have rl:r<w3.heap.size:=Q3 HR3.out.c.cell;have Lj:=zz c1;clear htot hlen hT hfull hsp hrd;go_wp2_with fail
  refine zD No [0,2,0,0,0,0,0,0,0,0,0,0,0,0,0,0,0,0,0,0,0,0] [0,2,3,5,6,7,8,1,4,9,10,11,12,13,14,15,16,17,18,19,20,21] ?_;repeat (first|refine zA ?_|refine zB ?_|refine zC ?_)
  refine Q4 rfl rfl (λn1=>?_);go_wp2_with fail
  refine (HU.out n1).mono ?_;rintro e w4 ⟨rfl,hk4⟩;have K4:Kp No w3 w4:=hk4.of_drewN;clear hk4;go_wp2_with fail
  repeat (first|refine zA ?_|refine zB ?_|refine zC ?_)
  refine Q6 (λnq=>?_);obtain ⟨V,hV⟩: ∃W,W=w4.drewN nq:=⟨_,rfl⟩;have Q1z:=zz (show Kp No w3 V by rw [hV];exact K4.drewN nq);rw [<-hV];clear hV K4 HU c0 c1;go_wp2_with fail
  go_ret
  rw [Lh,Qfo H0.out Qeh.out (by rw [HE.out];decide),HE.out];exact (HR3.out.no Q1z.out).stop HP.out
 ·have f1:decide ((s.room:Int)<(T:Int)+(p.length:Int))=false:=by simp;omega
  have Qtj:=zz (show T+p.length<=s.room by omega);clear hfull;cases hsp with
  |no L1 L2 hL h1 h2=>
   have Ja4:=zz h1;have HL2:=zz h2
   have hga:Qo s.files name=none:=by
    rw [<-Zb HP.out HR3.out.c.sorted.keys,hL];exact Q7x h1 h2
   have J6s:=zz hga;by_cases Q19:4096<=L.length
   ·have HE:=zz (show Yo s name p=6 by unfold Yo;rw [if_pos (.inr ⟨J6s.out,by rw [Qxs.out];exact Q19⟩)]);have f2:decide ((4096:Int)<=(L.length:Int))=true:=by simp;omega
    have f3:decide ((L.length:Int)>=(4096:Int))=true:=by simp;omega
    obtain ⟨ra,Y5,Q70,hrc,hrd⟩:=HR3.out.c.row.rd;have c1: ∀W,Kp No w3 W->W.cell? ⟨r,1,none⟩=some (.slice ra L.length Y5):=λW hW=>by rw [Q0 (HR3.out.c.Q5 hW).cell,Q70];rfl
    have c0: ∀W,Kp No w3 W->W.cell? ⟨r,0,none⟩=some (.int .i64 (s.room:Int)):=λW hW=>by rw [Q0 (HR3.out.c.Q5 hW).cell];rfl
    have rl:r<w3.heap.size:=Q3 HR3.out.c.cell;have Lj:=zz c1;clear htot hlen hT hga hL h1 h2 hrd;go_wp2_with fail
    refine zD No [0,2,0,0,0,0,0,0,0,0,0,0,0,0,0,0,0,0,0,0,0,0] [0,2,3,5,6,7,8,1,4,9,10,11,12,13,14,15,16,17,18,19,20,21] ?_;repeat (first|refine zA ?_|refine zB ?_|refine zC ?_)
    refine Q4 rfl rfl (λn1=>?_);go_wp2_with fail
    refine (HU.out n1).mono ?_;rintro e w4 ⟨rfl,hk4⟩;have K4:Kp No w3 w4:=hk4.of_drewN;clear hk4;go_wp2_with fail
    repeat (first|refine zA ?_|refine zB ?_|refine zC ?_)
    refine Q6 (λnq=>?_);obtain ⟨V,hV⟩: ∃W,W=w4.drewN nq:=⟨_,rfl⟩;have Q1z:=zz (show Kp No w3 V by rw [hV];exact K4.drewN nq);rw [<-hV];clear hV K4 HU c0 c1;go_wp2_with fail
    go_ret
    rw [Lh,Qfo H0.out Qeh.out (by rw [HE.out];decide),HE.out];exact (HR3.out.no Q1z.out).stop HP.out
   ·have HE:=zz (show Yo s name p=0 by
     unfold Yo;rw [if_neg];rintro (h|⟨_,h⟩)
     ·rw [Q7f.out] at h;have:=Qtj.out;omega
     ·rw [Qxs.out] at h;omega)
    have f2:decide ((4096:Int)<=(L.length:Int))=false:=by simp;omega
    have f3:decide ((L.length:Int)>=(4096:Int))=false:=by simp;omega
    have HL:=zz hL;have E3:=zz (show L.length+1<=4096 by omega);have hs0:Y6 (L1++L2):=by rw [<-hL];exact HR3.out.c.sorted
    have Qxx:=zz (sorted_put (f:=⟨name,none,0,[],0⟩) hs0 h1 h2)
    have Qnl:Hid (∀a c,(Z5 (L1++⟨name,a,c,[]++p,0⟩::L2)).Perm (Z9 s.files name p)):=zz (λa c=>by
     unfold Z9;rw [hga];exact Qht (f:=⟨name,a,c,[]++p,0⟩) (sorted_put hs0 h1 h2) (by rw [<-hL];exact HP.out))
    have Q3q:Hid (∀a c,Jl (Z5 (L1++⟨name,a,c,[]++p,0⟩::L2))<=s.room):=zz λa c=>by
     have h1:=Qtj.out;rw [HT.out,hL] at h1;rw [Ur];exact h1
    have Q9g:Hid (Jl (Z5 (L1++⟨name,none,0,[],0⟩::L2))<=s.room):=zz (by
     have h1:=Qtj.out;rw [HT.out,hL] at h1;rw [Ur];simp only [List.length_nil];omega)
    obtain ⟨ra,Y5,Q70,hrc,hrd⟩:=HR3.out.c.row.rd;have c1: ∀W,Kp No w3 W->W.cell? ⟨r,1,none⟩=some (.slice ra L.length Y5):=λW hW=>by rw [Q0 (HR3.out.c.Q5 hW).cell,Q70];rfl
    have c0: ∀W,Kp No w3 W->W.cell? ⟨r,0,none⟩=some (.int .i64 (s.room:Int)):=λW hW=>by rw [Q0 (HR3.out.c.Q5 hW).cell];rfl
    have rl:r<w3.heap.size:=Q3 HR3.out.c.cell;have Lj:=zz c1;have hile:L1.length<=L.length:=by rw [hL];simp
    have hic:L1.length<=Y5:=by omega
    have M8:=zz hrd;clear htot hlen hT hga hL h1 h2 hrd Q19 hs0;go_wp2_with fail
    refine zD No [0,2,0,0,0,0,0,0,0,0,0,0,0,0,0,0,0,0,0,0,0,0] [0,2,3,5,6,7,8,1,4,9,10,11,12,13,14,15,16,17,18,19,20,21] ?_;repeat (first|refine zA ?_|refine zB ?_|refine zC ?_)
    refine Q4 rfl rfl (λn1=>?_);go_wp2_with fail
    refine (HU.out n1).mono ?_;rintro e w4 ⟨rfl,hk4⟩;have K4:Kp No w3 w4:=hk4.of_drewN;clear hk4;go_wp2_with fail
    repeat (first|refine zA ?_|refine zB ?_|refine zC ?_)
    refine Q6 (λnq=>?_);obtain ⟨V,hV⟩: ∃W,W=w4.drewN nq:=⟨_,rfl⟩;have Q1z:=zz (show Kp No w3 V by rw [hV];exact K4.drewN nq);rw [<-hV];clear hV K4 HU c0 c1;have Qem:=zz (HR3.out.no Q1z.out);go_upto_region 8 with fail
    obtain ⟨i,hi⟩: ∃i,i=L1.length:=⟨_,rfl⟩;obtain ⟨n,hn⟩: ∃n,n=L.length:=⟨_,rfl⟩;have hLn:L.length=L1.length+L2.length:=by rw [HL.out];simp
    have htk:(L.flatMap Qj.cells).take (i*3)=L1.flatMap Qj.cells:=by
     rw [Xa Qj.cells 3 Qj.Y9,HL.out,hi];simp
    have hdr:(L.flatMap Qj.cells).drop (i*3)=L2.flatMap Qj.cells:=by
     rw [Yn Qj.cells 3 Qj.Y9,HL.out,hi];simp
    obtain ⟨W5,Dk⟩: ∃W,W=V.alloc (.cells #[] 170):=⟨_,rfl⟩;have k5:Kp No V W5:=by rw [Dk];exact zK.alloc _
    have J5z:Kp No w3 W5:=Q1z.out.trans_same k5;have J68:Qq 170 3 Qj.cells V W5 (.slice (some ⟨V.heap.size,0,none⟩) 0 0) 0 []:=by rw [Dk];exact Qq.made zK
    have Qr8:=((M8.out.kp J5z).take (i*3));rw [htk] at Qr8;obtain ⟨a6,c6,W6,hrun,hm,_⟩:=J68.app Tryz.underlying165 D9 Qj.cells_one L1 (Yf Qj.Y9 (c:=Y5) Qr8) rfl (by unfold maxLen;omega) (by omega);simp only [Nat.zero_add,List.nil_append] at hrun hm;rw [<-hi] at hrun hm;have J9e:=hm.2.2.2;have eV:=Lj.out V Q1z.out;have J9n:r<V.heap.size:=Nat.lt_of_lt_of_le rl Q1z.out.size;obtain ⟨W7,Qjj⟩: ∃W,W=W6.alloc (.cells #[.string name, .slice none 0 0, .int .i64 0] 170):=⟨_,rfl⟩;have Qc2:Kp No W6 W7:=by rw [Qjj];exact zK.alloc _
    have b7:W7.heap[W6.heap.size]?=some (.cells #[.string name, .slice none 0 0, .int .i64 0] 170 (0,0)):=by rw [Qjj];exact heap_alloc_new W6 _
    obtain ⟨a8,c8,W8,hrun8,J1k,_⟩:=(hm.keep Qc2).app Tryz.underlying165 D9 Qj.cells_one [(⟨name,none,0,[],0⟩:Qj)] (Ew Qj.Y9 b7 rfl) rfl (by unfold maxLen;omega) (by omega);have kv8:=J1k.2.2.2;skip
    have Qx5:Kp No w3 W8:=Q1z.out.trans_same kv8;have e8:=Lj.out W8 Qx5;have J9m:r<W8.heap.size:=Nat.lt_of_lt_of_le rl Qx5.size;rw [Dk] at hrun;rw [Qjj] at hrun8;have Qjd:=zz hrun;have Q6z:=zz hrun8;have J3m:=zz J1k;have HDR:=zz hdr;have hin:i<=n:=by omega
    have hnc:n<=Y5:=by omega
    have hn2:n<=4096:=by have:=E3.out;omega
    rw [<-hn] at eV e8;rw [<-hi];have HI:=zz hi;have Qsb:=zz hn;have hL2:L2.length=n-i:=by omega
    have Qp2:=zz hL2;have Qgv:=M8.out.kp Qx5;have J7a:=zz Qgv;have J6z:=zz Qx5
    have Q9h:=zz (show ∀W9,Kp No V W9-> ∀f∈(L1++[(⟨name,none,0,[],0⟩:Qj)])++L2,f∈L\/(U9 W9 f/\ ∀g,f.val.ownBlock=some g->G g\/w.heap.size<=g) from λW9 Kz f hf=>by
     rw [HL.out];rcases List.mem_append.1 hf with hf|hf
     ·rcases List.mem_append.1 hf with hf|hf
      ·exact .inl (List.mem_append_left _ hf)
      ·obtain rfl:=List.mem_singleton.1 hf;exact .inr ⟨⟨Own.nil _ _ _,Nat.le_refl _⟩,λg hg=>by simp [Qj.val,Value.ownBlock] at hg⟩
     ·exact .inl (List.mem_append_right _ hf))
    have HQ:=zz (show (L1++[(⟨name,none,0,[],0⟩:Qj)])++L2=L1++⟨name,none,0,[],0⟩::L2 by rw [List.append_assoc];rfl);have Qxp:=zz (show ((L1++[(⟨name,none,0,[],0⟩:Qj)])++L2).length<=4096 by have:=E3.out;rw [HQ.out,List.length_append,List.length_cons];omega);clear hrun hrun8 hm J1k Dk Qjj k5 J5z J68 Qr8 J9e Qc2 b7 kv8 Qx5 hLn htk hdr hL2 hi hn;go_upto_region 9 with (at_builtin;refine wpList_append_run rfl rfl rfl rfl Qjd.out ?_)
    go_upto_region 10 with (at_builtin;refine wpList_append_run rfl rfl rfl rfl Q6z.out ?_)
    clear Qjd Q6z eV;go_cut [] from 61 to 71 (λwx=>Hid (∃rv',Yi w wx r s.room (leftOf s.Zg) rv' (L1++⟨name,none,0,[],0⟩::L2) G))
    case first=>
     rcases Nat.lt_or_ge i n with hlt|hge
     ·have J8n:i<Y5:=by omega
      obtain ⟨g,off,rfl,_,_,_⟩:=Qgv (by rw [Vz Qj.cells 3 Qj.Y9,<-Qsb.out];omega);have hd:=Qgv.drop (i*3);rw [HDR.out] at hd;have hsrc:=Yf Qj.Y9 (c:=Y5-i) hd;rw [Qp2.out] at hsrc;obtain ⟨a9,c9,w9,hrun,hm,_⟩:=J3m.out.app Tryz.underlying165 D9 Qj.cells_one L2 hsrc Qp2.out.symm (by unfold maxLen;omega) (by omega);rw [show i+1+(n-i)=n+1 from by omega] at hrun hm;simp only [Option.map_some,Jq] at hrun;obtain ⟨Dj,ec,fc,rc⟩:=Qem.out.laid hm (Q9h.out w9 hm.2.2.2) (by rw [HQ.out];exact Qxx.out) (by rw [HQ.out];exact Q9g.out) Qxp.out;rw [HQ.out] at Dj;have Q0e:=zz hrun;have Q9j:=zz Dj;rw [Q70,<-Qsb.out] at ec;clear hd hsrc hrun hm Qgv Dj;go_wp2_with (at_builtin;refine wpList_append_run rfl rfl rfl rfl Q0e.out ?_)
      go_meet
      case rel=>exact zz ⟨_,Q9j.out⟩
     ·obtain rfl:i=n:=by omega
      have hl2:L2=[]:=List.eq_nil_of_length_eq_zero (by have:=Qp2.out;omega);have hm0:=λ(v:Option Addr) (c:Nat)=>J3m.out.app Tryz.underlying165 D9 Qj.cells_one L2 (x:= .slice v 0 c) (m:=0) (by rw [hl2];exact Qlx v c) (by rw [hl2];rfl) (by unfold maxLen;omega) (by omega);have Qjw:=zz hm0;have J71:=zz hl2;clear hm0 hl2 Qgv;cases ra with
      |none=>
       obtain ⟨a9,c9,w9,hrun,hm,_⟩:=Qjw.out none (Y5-i);rw [Nat.add_zero] at hrun hm;obtain ⟨Dj,ec,fc,rc⟩:=Qem.out.laid hm (Q9h.out w9 hm.2.2.2) (by rw [HQ.out];exact Qxx.out) (by rw [HQ.out];exact Q9g.out) Qxp.out;rw [HQ.out] at Dj;have Q0e:=zz hrun;have Q9j:=zz Dj;rw [Q70,<-Qsb.out] at ec;clear hrun hm Dj;go_wp2_with (at_builtin;refine wpList_append_run rfl rfl rfl rfl Q0e.out ?_)
       go_meet
       case rel=>exact zz ⟨_,Q9j.out⟩
      |some a0=>
       by_cases hcc:i=Y5
       ·subst hcc;obtain ⟨a9,c9,w9,hrun,hm,_⟩:=Qjw.out (some a0) 0;clear hnc hin hic;rw [Nat.add_zero] at hrun hm;obtain ⟨Dj,ec,fc,rc⟩:=Qem.out.laid hm (Q9h.out w9 hm.2.2.2) (by rw [HQ.out];exact Qxx.out) (by rw [HQ.out];exact Q9g.out) Qxp.out;rw [HQ.out] at Dj;have Q0e:=zz hrun;have Q9j:=zz Dj;rw [Q70,<-Qsb.out] at ec;clear hrun hm Dj;go_wp2_with (at_builtin;refine wpList_append_run rfl rfl rfl rfl Q0e.out ?_)
        go_meet
        case rel=>exact zz ⟨_,Q9j.out⟩
       ·have J8g:i<Y5:=by omega
        obtain ⟨a9,c9,w9,hrun,hm,_⟩:=Qjw.out (some (a0.add (i*3))) (Y5-i);rw [Nat.add_zero] at hrun hm;obtain ⟨Dj,ec,fc,rc⟩:=Qem.out.laid hm (Q9h.out w9 hm.2.2.2) (by rw [HQ.out];exact Qxx.out) (by rw [HQ.out];exact Q9g.out) Qxp.out;rw [HQ.out] at Dj;have Q0e:=zz hrun;have Q9j:=zz Dj;rw [Q70,<-Qsb.out] at ec;clear hrun hm Dj;go_wp2_with (at_builtin;refine wpList_append_run rfl rfl rfl rfl Q0e.out ?_)
        go_meet
        case rel=>exact zz ⟨_,Q9j.out⟩
    case rest=>
    obtain ⟨J9o,Dj⟩:=hcut.out;clear hcut Q70 hile hic J9n J9m e8 hin hnc hn2 Qem Q1z rl Lj M8;rename World=>V;obtain ⟨f,hf⟩: ∃f:Qj,f=⟨name,none,0,[],0⟩:=⟨_,rfl⟩;have Qb4:Hid (Yi w V r s.room (leftOf s.Zg) J9o (L1++f::L2) G):=zz (by rw [hf];exact Dj);have N8:=zz (show ∀a c,(Z5 (L1++⟨f.name,a,c,f.data++p,f.lasts⟩::L2)).Perm (Z9 s.files name p) by rw [hf];exact Qnl.out);have Qj5:=zz (show ∀a c,Jl (Z5 (L1++⟨f.name,a,c,f.data++p,f.lasts⟩::L2))<=s.room by rw [hf];exact Q3q.out);clear Qnl Q3q;rename Hid (∀a c,(Z5 (L1++⟨f.name,a,c,f.data++p,f.lasts⟩::L2)).Perm (Z9 s.files name p))=>Qnl;rename Hid (∀a c,Jl (Z5 (L1++⟨f.name,a,c,f.data++p,f.lasts⟩::L2))<=s.room)=>Q3q;have Qpa:=zz (λW (hW:Kp No V W) n=>J3s.out (W.drewN n) ((Qb4.out.kp.trans_no hW).drewN n));clear hf Dj;rw [HI.out];clear HI Qsb;obtain ⟨g,off,Y5,n,hn,hlt,hcap,hgr,rfl,hcells⟩:=Qb4.out.c.at_;have HF:=zz (Qb4.out.c.files f (by simp));have HN:=zz hn;have q1: ∀W,Kp No V W->W.cell? ⟨r,1,none⟩=some (.slice (some ⟨g,off,none⟩) n Y5):=λW hW=>(hcells W hW).c1;have q2: ∀W,Kp No V W->W.cell? ⟨g,off+L1.length*3+1,none⟩=some (.slice f.a f.data.length f.cap):=λW hW=>(hcells W hW).d1;obtain ⟨i,hi⟩: ∃i,i=L1.length:=⟨_,rfl⟩;rw [<-hi] at hlt q2⊢;have HI:=zz hi;have Q0b:=zz hcells;have rl:=(hcells V zK).rl;have gl:=(hcells V zK).gl;obtain ⟨m,hm⟩: ∃m,m=f.data.length:=⟨_,rfl⟩;rw [<-hm] at q2;have Qb1:=zz hm
    have hmm:m<=1073741824:=by
     have h1:=Qb4.out.c.fits;have h2:=Qb4.out.c.roomy;rw [Ur] at h1;omega
    clear hn hi hcells hm;go_upto_region 11 with fail
    refine J4 (Kp No V) [0,0,0,0,0,2,0,0,0,0,0,0,0,0,2,0,2,0,0,2] [0,1,2,3,4,6,7,8,9,10,11,12,13,15,5,14,16,17,18] 19 (by kernel_rfl) (by kernel_rfl) (λ_ n h=>h.drewN n) zK ?_;repeat (first|refine zA ?_|refine zB ?_|refine zC ?_)
    refine Q4 rfl rfl (λn1=>?_);go_wp2_with fail
    obtain ⟨W6,Q4l⟩: ∃W,W=(V.drewN n1).alloc (.cells #[] 5):=⟨_,rfl⟩;have k6:Kp No V W6:=by rw [Q4l];exact (zK.drewN _).alloc _
    have Bh:Own W6 5 1 (.slice (some ⟨V.heap.size,0,none⟩) 0 0) 0 []:=by rw [Q4l];exact Own.made (V.drewN n1) 5 1 #[] 0 0 (Nat.le_refl _) (by simp [maxLen]) (by simp) rfl
    rw [<-Q4l];have Qzd:=zz Bh;clear Q4l Bh;refine ⟨k6,?_⟩;refine Q4 rfl rfl (λn2=>?_);obtain ⟨a7,c7,W7,hrun,Qdy,Q18,hb7⟩:=Nb (W6.drewN n2) V.heap.size (Qzd.out.drewN n2) f.data f.a f.cap ((HF.out.1.rd').kp (k6.drewN n2)) (by have:=Qb1.out;omega);rw [<-Qb1.out] at hrun;have k7:Kp No V W7:=(k6.drewN n2).trans Q18 (λk hk (e:k=V.heap.size)=>by omega);have Ma:=zz hrun;have Qjy:=zz Qdy;have Is:=zz hb7;have hs6:V.heap.size<=(W6.drewN n2).heap.size:=k6.size;have hs7:(W6.drewN n2).heap.size<=W7.heap.size:=Q18.size;clear hrun Qdy Q18 hb7;refine wpList_append_run rfl rfl rfl rfl Ma.out (wpList_nil ⟨rfl,k7,?_⟩);clear Ma;refine Q4 rfl rfl (λn3=>?_);obtain ⟨a8,c8,W8,hrun,Qob,hk8,hb8⟩:=Fu (W7.drewN n3) (.slice a7 f.data.length c7) f.data p (Qjy.out.drewN n3) pa pc (Qpa.out W7 k7 n3) (by have:=Qb1.out;omega)
    have k8:Kp No V W8:=(k7.drewN n3).trans hk8 (λk hk hs=>by
     rcases Is.out k hs with h1|h1
     ·omega
     ·omega)
    obtain ⟨m2,hm2⟩: ∃m2,m2=(f.data++p).length:=⟨_,rfl⟩;rw [<-hm2,<-Qb1.out] at hrun;have Q6z:=zz hrun;have Qtn:=zz Qob
    have El:=zz (show ∀k,(Value.slice a8 (f.data++p).length c8).ownBlock=some k->V.heap.size<=k from λk hk=>by
     rcases hb8 with h1|⟨g',h1,h2⟩
     ·rw [h1] at hk;rcases Is.out k hk with h3|h3
      ·omega
      ·omega
     ·rw [h1] at hk;injection hk with hk;have h3:(W7.drewN n3).heap.size=W7.heap.size:=rfl;omega)
    have Qz8:=zz hm2;clear hrun Qob hk8 hb8 hm2;refine wpList_append_run rfl rfl rfl rfl Q6z.out (wpList_nil ⟨rfl,k8,?_⟩);clear Q6z q1 q2;repeat (first|refine zA ?_|refine zB ?_|refine zC ?_)
    refine Yc (λn4=>?_);refine Q4 rfl rfl (λn5=>?_);obtain ⟨W9,Kz⟩: ∃W,W=(W8.drewN n4).drewN n5:=⟨_,rfl⟩;have k9:Kp No V W9:=by rw [Kz];exact (k8.drewN n4).drewN n5
    have Qbx:Own W9 5 1 (.slice a8 (f.data++p).length c8) (f.data++p).length (u8s (f.data++p)):=by rw [Kz];exact Qtn.out
    rw [<-Kz];have d1:W9.cell? ⟨g,off+i*3+1,none⟩=some (.slice f.a m f.cap):=by rw [HI.out,Qb1.out];exact (Q0b.out W9 k9).d1
    have fg:=(Q0b.out W9 k9).fg (off+i*3+1);have Qa4:=Qb4.out.setAt HN.out k9 1 (.slice a8 m2 c8) (by omega) ⟨f.name,a8,c8,f.data++p,f.lasts⟩ (by rw [Qz8.out];rfl) rfl ⟨Qbx,by have:=HF.out.2;show f.lasts<=(f.data++p).length;rw [List.length_append];omega⟩ (λk hk=> .inr (El.out k hk)) (Q3q.out _ _);rw [<-HI.out] at Qa4;clear Kz Qbx;go_wp2_with fail
    intro nq;obtain ⟨V9,Qq6⟩: ∃W,W=(W9.setCell ⟨g,off+i*3+1,none⟩ (.slice a8 m2 c8)).drewN nq:=⟨_,rfl⟩;have HRn:=zz (show Yi w V9 r s.room (leftOf s.Zg) _ _ G by rw [Qq6];exact Qa4.no ((Kp.refl No _).drewN nq));rw [<-Qq6];clear Qa4 d1 fg Qq6;have hd:=Ac V9 r s.room (leftOf s.Zg) _ _ HRn.out.c;rw [<-Ic H0.out] at hd;have HD:=zz hd;clear hd;go_wp2_with fail
    refine HD.out.mono ?_;rintro e wd ⟨rfl,hcd,hkd⟩;have Qtw:=zz (HRn.out.L4 hcd hkd);clear hcd hkd HD;go_wp2_with fail
    go_ret
    rw [Lh,Qfn H0.out Qeh.out HE.out];exact Yi.stop (s:={s with Zg:=s.Zg.map (· - 1),files:=_}) Qtw.out (Qnl.out _ _)
  |is L1 f L2 hL hk=>
   have hga:Qo s.files name=some ⟨f.data,f.lasts⟩:=by rw [<-Zb HP.out HR3.out.c.sorted.keys,<-hk,hL];exact Q7w (by rw [<-hL];exact HR3.out.c.sorted) rfl
   have HE:=zz (show Yo s name p=0 by
    unfold Yo;rw [if_neg];rintro (h|⟨h,_⟩)
    ·rw [Q7f.out] at h;have:=Qtj.out;omega
    ·rw [hga] at h;cases h)
   have HL:=zz hL
   have Qnl:Hid (∀a c,(Z5 (L1++⟨f.name,a,c,f.data++p,f.lasts⟩::L2)).Perm (Z9 s.files name p)):=zz (λa c=>by
    have h1:=HR3.out.c.sorted;have h2:=HP.out;rw [hL] at h1 h2;unfold Z9;rw [hga,<-hk];exact Q1i h1 h2 rfl)
   have Q3q:Hid (∀a c,Jl (Z5 (L1++⟨f.name,a,c,f.data++p,f.lasts⟩::L2))<=s.room):=zz λa c=>by
    have h1:=Qtj.out;rw [HT.out,hL] at h1;rw [Ur] at h1⊢;rw [List.length_append];omega
   obtain ⟨ra,Y5,Q70,hrc,hrd⟩:=HR3.out.c.row.rd;have c1: ∀W,Kp No w3 W->W.cell? ⟨r,1,none⟩=some (.slice ra L.length Y5):=λW hW=>by rw [Q0 (HR3.out.c.Q5 hW).cell,Q70];rfl
   have c0: ∀W,Kp No w3 W->W.cell? ⟨r,0,none⟩=some (.int .i64 (s.room:Int)):=λW hW=>by rw [Q0 (HR3.out.c.Q5 hW).cell];rfl
   have rl:r<w3.heap.size:=Q3 HR3.out.c.cell;have Lj:=zz c1;clear htot hlen hT hga hk hrd;go_wp2_with fail
   refine zD No [0,2,0,0,0,0,0,0,0,0,0,0,0,0,0,0,0,0,0,0,0,0] [0,2,3,5,6,7,8,1,4,9,10,11,12,13,14,15,16,17,18,19,20,21] ?_;repeat (first|refine zA ?_|refine zB ?_|refine zC ?_)
   refine Q4 rfl rfl (λn1=>?_);go_wp2_with fail
   refine (HU.out n1).mono ?_;rintro e w4 ⟨rfl,hk4⟩;have K4:Kp No w3 w4:=hk4.of_drewN;clear hk4;go_wp2_with fail
   repeat (first|refine zA ?_|refine zB ?_|refine zC ?_)
   refine Q6 (λnq=>?_);obtain ⟨V,hV⟩: ∃W,W=w4.drewN nq:=⟨_,rfl⟩;have Q1z:=zz (show Kp No w3 V by rw [hV];exact K4.drewN nq);rw [<-hV];clear hV K4 HU c0 c1;have Qb4:Hid (Yi w V r s.room (leftOf s.Zg) rv (L1++f::L2) G):=zz (by have h1:=HR3.out.no Q1z.out;rwa [HL.out] at h1);have Qpa:=zz (λW (hW:Kp No V W) n=>J3s.out (W.drewN n) ((Qb4.out.kp.trans_no hW).drewN n));clear HL Q70;clear rl Lj;obtain ⟨g,off,Y5,n,hn,hlt,hcap,hgr,rfl,hcells⟩:=Qb4.out.c.at_;have HF:=zz (Qb4.out.c.files f (by simp));have HN:=zz hn;have q1: ∀W,Kp No V W->W.cell? ⟨r,1,none⟩=some (.slice (some ⟨g,off,none⟩) n Y5):=λW hW=>(hcells W hW).c1;have q2: ∀W,Kp No V W->W.cell? ⟨g,off+L1.length*3+1,none⟩=some (.slice f.a f.data.length f.cap):=λW hW=>(hcells W hW).d1;obtain ⟨i,hi⟩: ∃i,i=L1.length:=⟨_,rfl⟩;rw [<-hi] at hlt q2⊢;have HI:=zz hi;have Q0b:=zz hcells;have rl:=(hcells V zK).rl;have gl:=(hcells V zK).gl;obtain ⟨m,hm⟩: ∃m,m=f.data.length:=⟨_,rfl⟩;rw [<-hm] at q2;have Qb1:=zz hm
   have hmm:m<=1073741824:=by
    have h1:=Qb4.out.c.fits;have h2:=Qb4.out.c.roomy;rw [Ur] at h1;omega
   clear hn hi hcells hm;go_upto_region 11 with fail
   refine J4 (Kp No V) [0,0,0,0,0,2,0,0,0,0,0,0,0,0,2,0,2,0,0,2] [0,1,2,3,4,6,7,8,9,10,11,12,13,15,5,14,16,17,18] 19 (by kernel_rfl) (by kernel_rfl) (λ_ n h=>h.drewN n) zK ?_;repeat (first|refine zA ?_|refine zB ?_|refine zC ?_)
   refine Q4 rfl rfl (λn1=>?_);go_wp2_with fail
   obtain ⟨W6,Q4l⟩: ∃W,W=(V.drewN n1).alloc (.cells #[] 5):=⟨_,rfl⟩;have k6:Kp No V W6:=by rw [Q4l];exact (zK.drewN _).alloc _
   have Bh:Own W6 5 1 (.slice (some ⟨V.heap.size,0,none⟩) 0 0) 0 []:=by rw [Q4l];exact Own.made (V.drewN n1) 5 1 #[] 0 0 (Nat.le_refl _) (by simp [maxLen]) (by simp) rfl
   rw [<-Q4l];have Qzd:=zz Bh;clear Q4l Bh;refine ⟨k6,?_⟩;refine Q4 rfl rfl (λn2=>?_);obtain ⟨a7,c7,W7,hrun,Qdy,Q18,hb7⟩:=Nb (W6.drewN n2) V.heap.size (Qzd.out.drewN n2) f.data f.a f.cap ((HF.out.1.rd').kp (k6.drewN n2)) (by have:=Qb1.out;omega);rw [<-Qb1.out] at hrun;have k7:Kp No V W7:=(k6.drewN n2).trans Q18 (λk hk (e:k=V.heap.size)=>by omega);have Ma:=zz hrun;have Qjy:=zz Qdy;have Is:=zz hb7;have hs6:V.heap.size<=(W6.drewN n2).heap.size:=k6.size;have hs7:(W6.drewN n2).heap.size<=W7.heap.size:=Q18.size;clear hrun Qdy Q18 hb7;refine wpList_append_run rfl rfl rfl rfl Ma.out (wpList_nil ⟨rfl,k7,?_⟩);clear Ma;refine Q4 rfl rfl (λn3=>?_);obtain ⟨a8,c8,W8,hrun,Qob,hk8,hb8⟩:=Fu (W7.drewN n3) (.slice a7 f.data.length c7) f.data p (Qjy.out.drewN n3) pa pc (Qpa.out W7 k7 n3) (by have:=Qb1.out;omega)
   have k8:Kp No V W8:=(k7.drewN n3).trans hk8 (λk hk hs=>by
    rcases Is.out k hs with h1|h1
    ·omega
    ·omega)
   obtain ⟨m2,hm2⟩: ∃m2,m2=(f.data++p).length:=⟨_,rfl⟩;rw [<-hm2,<-Qb1.out] at hrun;have Q6z:=zz hrun;have Qtn:=zz Qob
   have El:=zz (show ∀k,(Value.slice a8 (f.data++p).length c8).ownBlock=some k->V.heap.size<=k from λk hk=>by
    rcases hb8 with h1|⟨g',h1,h2⟩
    ·rw [h1] at hk;rcases Is.out k hk with h3|h3
     ·omega
     ·omega
    ·rw [h1] at hk;injection hk with hk;have h3:(W7.drewN n3).heap.size=W7.heap.size:=rfl;omega)
   have Qz8:=zz hm2;clear hrun Qob hk8 hb8 hm2;refine wpList_append_run rfl rfl rfl rfl Q6z.out (wpList_nil ⟨rfl,k8,?_⟩);clear Q6z q1 q2;repeat (first|refine zA ?_|refine zB ?_|refine zC ?_)
   refine Yc (λn4=>?_);refine Q4 rfl rfl (λn5=>?_);obtain ⟨W9,Kz⟩: ∃W,W=(W8.drewN n4).drewN n5:=⟨_,rfl⟩;have k9:Kp No V W9:=by rw [Kz];exact (k8.drewN n4).drewN n5
   have Qbx:Own W9 5 1 (.slice a8 (f.data++p).length c8) (f.data++p).length (u8s (f.data++p)):=by rw [Kz];exact Qtn.out
   rw [<-Kz];have d1:W9.cell? ⟨g,off+i*3+1,none⟩=some (.slice f.a m f.cap):=by rw [HI.out,Qb1.out];exact (Q0b.out W9 k9).d1
   have fg:=(Q0b.out W9 k9).fg (off+i*3+1);have Qa4:=Qb4.out.setAt HN.out k9 1 (.slice a8 m2 c8) (by omega) ⟨f.name,a8,c8,f.data++p,f.lasts⟩ (by rw [Qz8.out];rfl) rfl ⟨Qbx,by have:=HF.out.2;show f.lasts<=(f.data++p).length;rw [List.length_append];omega⟩ (λk hk=> .inr (El.out k hk)) (Q3q.out _ _);rw [<-HI.out] at Qa4;clear Kz Qbx;go_wp2_with fail
   intro nq;obtain ⟨V9,Qq6⟩: ∃W,W=(W9.setCell ⟨g,off+i*3+1,none⟩ (.slice a8 m2 c8)).drewN nq:=⟨_,rfl⟩;have HRn:=zz (show Yi w V9 r s.room (leftOf s.Zg) _ _ G by rw [Qq6];exact Qa4.no ((Kp.refl No _).drewN nq));rw [<-Qq6];clear Qa4 d1 fg Qq6;have hd:=Ac V9 r s.room (leftOf s.Zg) _ _ HRn.out.c;rw [<-Ic H0.out] at hd;have HD:=zz hd;clear hd;go_wp2_with fail
   refine HD.out.mono ?_;rintro e wd ⟨rfl,hcd,hkd⟩;have Qtw:=zz (HRn.out.L4 hcd hkd);clear hcd hkd HD;go_wp2_with fail
   go_ret
   rw [Lh,Qfn H0.out Qeh.out HE.out];exact Yi.stop (s:={s with Zg:=s.Zg.map (· - 1),files:=_}) Qtw.out (Qnl.out _ _)
end Go.Proofs.YtgnkmjeoaoongaaGreatDoor
