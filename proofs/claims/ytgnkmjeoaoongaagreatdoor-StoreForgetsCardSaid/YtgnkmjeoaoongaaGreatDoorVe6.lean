/- store -/
import Derived.Test.YtgnkmjeoaoongaaGreatDoorVe3
import Derived.Test.YtgnkmjeoaoongaaGreatDoorVe4
set_option maxRecDepth 100000
set_option maxHeartbeats 4000000
namespace Go.Proofs.YtgnkmjeoaoongaaGreatDoor
open Go.RowKit Go.Mer
section
variable {w w':World} {s x d l r y o m:Nat} {P:ByteArray} {st:Ja} {cs:Zn} {la ka:Option Addr} {lc kc:Nat} {K K':List Qe} {a':Option Addr} {c2:Nat}
theorem X6.Q5n (h:X6 w s d l P o st m cs ka kc K) (hk:Kp (λg=>(Value.slice ka K.length kc).ownBlock=some g) w w') (ho:Own w' 46 9 (.slice a' K'.length c2) K'.length (K'.flatMap recC))
  (hb: ∀g,(Value.slice a' K'.length c2).ownBlock=some g->(Value.slice ka K.length kc).ownBlock=some g\/w.heap.size<=g) (hx: ∀z∈K',z.ok w):
  X6 (w'.setCell ⟨s,25,none⟩ (.slice a' K'.length c2)) s d l P o {st with kept:=K'.map Qe.r} m cs a' c2 K':=by
 have hsa:=h.F7;have hkt: ∀g,(Value.slice ka K.length kc).ownBlock=some g-> ∃cur,w.heap[g]?=some (.cells cur 46 (0,0)):=λg hg=>h.kept.own.type g hg;obtain ⟨es,ck,hm0,_⟩:=id h.map;have hcell:=hk.get h.cell λhg=>hsa.2 (.inl hg);have hsl:=Q7 h.cell;have hs:Kp (Mer.One s) w' (w'.setCell ⟨s,25,none⟩ (.slice a' K'.length c2)):=(Kp.refl (Mer.One s) w').setCell (p:=⟨s,25,none⟩) (.inl (show Mer.One s s from rfl)) _;have hall:Kp (λg=>g=s\/(Value.slice ka K.length kc).ownBlock=some g) w (w'.setCell ⟨s,25,none⟩ (.slice a' K'.length c2)):=(hk.mono λ_ _ e=> .inr e).trans hs λ_ _ e=> .inl e;refine ⟨?_,h.map.of_heap (hall.block m h.map.lt λhS=>?_),h.Fx.keep hall λg hf hS=>?_,⟨ho.keep hs λg hg e=>?_,λy hy=>?_⟩,h.perm,rfl⟩
 ·have:=Ql hcell 25 (.slice a' K'.length c2);simpa [F8] using this
 ·rcases hS with hS|hS
  ·exact h.Q1g hS.symm
  ·obtain ⟨cur,E2⟩:=hkt _ hS;exact Xz E2 hm0 rfl
 ·rcases hS with hS|hS
  ·exact hsa.1 (hS▸hf)
  ·obtain ⟨cur,E2⟩:=hkt _ hS;obtain ⟨p,hp,hf|hf|⟨y,hy,hf⟩⟩:=hf
   ·exact h.Ig hp g (.inl hS) (.inl hf)
   ·exact h.Ig hp g (.inl hS) (.inr hf)
   ·obtain ⟨cur',C9⟩:=Own.type ((h.Fx.each p hp).vals y hy) _ hf;exact Qd E2 C9 (by decide) rfl
 ·rcases hb g hg with h1|h1
  ·exact hsa.2 (.inl (by rw [h1,show g=s from e]))
  ·have e:g=s:=e;omega
 ·exact Qm.ok.apart (hx y hy) hall λg hg cur J5=>by
   rcases hg with rfl|hg
   ·exact Qd J5 h.cell (by decide) rfl
   ·obtain ⟨cur',C9⟩:=hkt _ hg;exact Qd J5 C9 (by decide) rfl
theorem Vo.Q5n (h:Vo w x r y P o st la lc cs ka kc K) (hk:Kp No w w') (ho:Own w' 46 9 (.slice a' K'.length c2) K'.length (K'.flatMap recC))
  (hb: ∀g,(Value.slice a' K'.length c2).ownBlock=some g->w.heap.size<=g) (hz: ∀z∈K',z.ok w):
  Vo (w'.setCell ⟨x,23,none⟩ (.slice a' K'.length c2)) x r y P o {st with kept:=K'.map Qe.r} la lc cs a' c2 K':=by
 have hxa:=h.Oo;obtain ⟨t1,t2,t3,t4,t5⟩:=h.ty;have hcell:=hk.get h.cell λhg=>hg;have hxl:=Q7 h.cell;have hs:Kp (Mer.One x) w' (w'.setCell ⟨x,23,none⟩ (.slice a' K'.length c2)):=(Kp.refl (Mer.One x) w').setCell (p:=⟨x,23,none⟩) (.inl (show Mer.One x x from rfl)) _;have hall:Kp (Mer.One x) w (w'.setCell ⟨x,23,none⟩ (.slice a' K'.length c2)):=(Kp.Qx hk).Q0 hs;have hS: ∀g,g=x->Ty w 64 g:=λg e=>e▸t1;refine ⟨?_,h.row.keep hall λg hg hh=>(t2 g hg).ne (hS g hh) (by decide) rfl,h.Fx.keep hall λg hf hh=>?_,⟨ho.keep hs λg hg e=>?_,λv hv=>?_⟩,h.Vd,rfl⟩
 ·have:=Ql hcell 23 (.slice a' K'.length c2);simpa [Ue] using this
 ·rcases t3 g hf with t|t|t<;>exact t.ne (hS g hh) (by decide) rfl
 ·have h1:=hb g hg;have e:g=x:=e;omega
 ·exact Qm.ok.apart (hz v hv) hall λg hg cur J5=>(hS g hg).ne ⟨cur,J5⟩ (by decide) rfl
end
theorem Qdh (u:Int) (K:List Qe):(Zz u K).map Qe.r=(K.map Qe.r).filter λr=>decide (u<r.seq):=by
 unfold Zz;rw [List.filter_map];rfl
theorem Q91 {w:World} {s d l o m:Nat} {P:ByteArray} {st:Ja} {cs:Zn} {ka:Option Addr} {kc:Nat} {K:List Qe} (h:X6 w s d l P o st m cs ka kc K) (u:Int) (hn:K.length<=1000000):
  Calls Tryz.prog 33 #[.pointer (some ⟨s,0,none⟩), .int .i64 u] w λe w'=>e= .returned (.tuple #[])/\X6 w' s d l P o (Xg st u) m cs ka kc (Zz u K)/\Kp (λg=>g=s\/(Value.slice ka K.length kc).ownBlock=some g) w w':=by
 obtain ⟨w1,hw1⟩: ∃W,W=w.alloc (.cells #[.int .i64 u] 3):=⟨_,rfl⟩;have k1:Kp No w w1:=by rw [hw1];exact zK.alloc _
 obtain ⟨b,hb⟩: ∃b,b=w.heap.size:=⟨_,rfl⟩;have b1:w1.heap[b]?=some (.cells #[.int .i64 u] 3 (0,0)):=by rw [hw1,hb];exact heap_alloc_new w _
 have h1:=h.Q9 k1;obtain ⟨n,A2⟩: ∃n,n=K.length:=⟨_,rfl⟩;have c25:w1.cell? ⟨s,25,none⟩=some (.slice ka n kc):=by rw [A2];exact h1.at_ zK 25
 have hsl:=Q7 h1.cell
 have hbn:(Value.slice ka K.length kc).ownBlock≠some b:=λe=>by
  have:=h.kept.own.lt b e;omega
 have hdl:=Qmt w1 ka kc K h1.kept.own hn b u (Q4 b1 0) hbn;rw [<-A2] at hdl;have Lj:=zz hdl;have HW1:=zz (And.intro hw1 hb);have H:=zz (And.intro h1 (And.intro A2 (And.intro k1 (And.intro h.Ez h.kept.vals))));clear h h1 hw1 hb k1 b1 hn A2 hbn hdl;go_enter Tryz.func33,Tryz.ntmps33
 go_upto_region 1 with fail
 rw [<-HW1.out.1,<-HW1.out.2];go_wp2_with fail
 refine Lj.out.mono ?_;intro e w2 hq;unfold Qoh at hq;obtain ⟨i,rfl,hi,ho,hk⟩:=hq;have hcell:=hk.get H.out.1.cell λhg=>H.out.1.F7.2 (.inl hg);have f25:=Qh hcell 25;have d25:w2.cell? ⟨s,25,none⟩=some (.slice ka n kc):=by rw [H.out.2.1];exact Q4 hcell 25
 have hs2:=Q7 hcell
 have HF:=zz (show X6 (w2.setCell ⟨s,25,none⟩ (.slice ka i kc)) s d l P o (Xg st u) m cs ka kc (Zz u K)/\Kp (λg=>g=s\/(Value.slice ka K.length kc).ownBlock=some g) w (w2.setCell ⟨s,25,none⟩ (.slice ka i kc)) from by
  have ho':=ho;rw [hi] at ho'
  have h2:=H.out.1.Q5n (K':=Zz u K) hk ho' (λg hg=> .inl (by
   cases ka with
   |none=>simp [Value.ownBlock] at hg
   |some a=>exact hg)) (λz hz=>H.out.1.kept.vals z (List.mem_filter.1 hz).1)
  rw [hi];refine ⟨?_,?_⟩
  ·have e:Xg st u={st with kept:=(Zz u K).map Qe.r}:=by
    unfold Xg;rw [Qdh,H.out.2.2.2.1]
   rw [e];exact h2
  ·exact (Kp.Qx H.out.2.2.1).Q0 ((hk.mono λ_ _ e=> .inr e).trans ((Kp.refl (Mer.One s) w2).setCell (p:=⟨s,25,none⟩) (.inl (show Mer.One s s from rfl)) _) λ_ _ e=> .inl e))
 clear hcell ho hk hi c25 hsl Lj;go_wp2_with fail
 exact bodyPost_end (results_none rfl _ _ _) rfl ⟨rfl,HF.out⟩
structure J49 (w:World) (K:List Qe) (u:Int) (k:Nat) (v:Value) (n:Nat) (Ko:List Qe) (wr:World):Prop where
 row:Jd 46 9 recC w wr v n Ko
 eq:Ko=Zz u (K.take k)
theorem Q9o {w:World} {x r y o:Nat} {P:ByteArray} {st:Ja} {la ka:Option Addr} {lc kc:Nat} {cs:Zn} {K:List Qe} (h:Vo w x r y P o st la lc cs ka kc K) (u:Int) (hn:K.length<=1000000):
  Calls Tryz.prog 34 #[.pointer (some ⟨x,0,none⟩), .int .i64 u] w λe w'=>e= .returned (.tuple #[])/\ ∃a c,Vo w' x r y P o (Xg st u) la lc cs a c (Zz u K)/\(∀g,(Value.slice a (Zz u K).length c).ownBlock=some g->w.heap.size<=g)/\Kp (Mer.One x) w w':=by
 obtain ⟨n,A2⟩: ∃n,n=K.length:=⟨_,rfl⟩;have hnn:n<=1000000:=by omega
 have J4z:=zz (show ∀W,Kp No w W->W.cell? ⟨x,23,none⟩=some (.slice ka n kc)/\x<W.heap.size from λW hW=>⟨by rw [A2];exact h.at_ hW 23,hW.lt (Q7 h.cell)⟩);have Ky:=zz (Own.rd' h.kept.own);have H:=zz (And.intro h A2);have HI0:=zz (show J49 w K u 0 (.slice none 0 0) 0 [] w from ⟨Jd.nil _ _ _ _,rfl⟩);clear h A2 hn;go_enter Tryz.func34,Tryz.ntmps34
 go_wp2_with fail
 go_loopw [4,5] (λv i wr=> ∃(k lo c:Nat) (a:Option Addr) (Ko:List Qe),k<=n/\i= .int .i64 (k:Int)/\v= .slice a lo c/\lo<=k/\Hid (J49 w K u k (.slice a lo c) lo Ko wr)) (λ_ i _=>n-(intOf i).toNat)
 case atStart=>exact ⟨0,0,0,none,[],Nat.zero_le _,rfl,rfl,Nat.le_refl _,HI0⟩
 case round=>
  clear HI0;obtain ⟨k,lo,c,a,Ko,hk,rfl,rfl,hlk,HI⟩:=hrel;have hkp:=HI.out.row.2.2.2;obtain ⟨c23,hxl⟩:=J4z.out wr hkp;rcases Nat.lt_or_ge k n with hlt|hge
  ·have Y8:k<K.length:=by have:=H.out.2;omega
   obtain ⟨g,off,rfl,hgl,hgr⟩:=Jx Ky.out Y8;have hts:K.take (k+1)=K.take k++[K[k]]:=List.take_succ_eq_append_getElem Y8;obtain ⟨z,hz⟩: ∃z,z=K[k]:=⟨_,rfl⟩;rw [<-hz] at hgr hts;obtain ⟨rr,ya,yc⟩:=z;have c1:wr.cell? ⟨g,off+k*9+1,none⟩=some (.int .i64 rr.seq):=hgr wr hkp 1 _ rfl;have hg3:=hkp.lt hgl;have HT:=zz hts;have R1:=zz (show wr.rangeAt g (off+k*9) [.int .i64 rr.o, .int .i64 rr.seq, .string rr.key, .int .i64 rr.v.m, .int .i64 rr.v.c, .int .i64 rr.v.o, .slice ya rr.v.val.length yc, .bool rr.v.gone, .int .i64 rr.v.ttl] from hgr wr hkp);clear hts hz hgr Y8 hgl;by_cases hq:u<rr.seq
   ·have e1:decide (u<rr.seq)=true:=decide_eq_true hq;obtain ⟨a9,c9,W9,hrun,Q0f,hk9,Gl⟩:=Og (T:=26) (E:=46) (sz:=9) (bytes:=96) Tryz.underlying26 Ob (W:=wr) HI.out.row.2.1 (news:=recC ⟨rr,ya,yc⟩) (G5 _) rfl (cs:= #[.int .i64 rr.o, .int .i64 rr.seq, .string rr.key, .int .i64 rr.v.m, .int .i64 rr.v.c, .int .i64 rr.v.o, .slice ya rr.v.val.length yc, .bool rr.v.gone, .int .i64 rr.v.ttl]) rfl (by omega) (by omega)
    have Y4:=zz (show J49 w K u (k+1) (.slice a9 (lo+1) c9) (lo+1) (Ko++[⟨rr,ya,yc⟩]) W9 from by
     refine ⟨⟨by rw [List.length_append,List.length_singleton,<-HI.out.row.1],by rw [List.flatMap_append,List.flatMap_cons,List.flatMap_nil,List.append_nil];exact Q0f,λg' hg'=>?_,hkp.trans hk9 λi hi hs=>by have:=HI.out.row.2.2.1 i hs;omega⟩,?_⟩
     ·rcases Gl with hb|⟨g2,hb,hb2⟩
      ·exact HI.out.row.2.2.1 g' (by rw [<-hb];exact hg')
      ·rw [hb] at hg';injection hg' with hg';have:=hkp.size;omega
     ·rw [HI.out.eq,HT.out];unfold Zz;rw [List.filter_append,List.filter_cons_of_pos (by simpa using hq)];rfl)
    have Hz:=zz hrun;clear hq hrun Q0f hk9 Gl hkp
    go_wp2_with (first
     |(refine Qj rfl 46 _ rfl g (off+k*9) rfl _ _ R1 Tryz.underlying46 rfl (by kernel_rfl) ?_)
     |(at_builtin;refine wpList_append_run rfl rfl rfl rfl Hz.out ?_))
    go_roundw
    case rel=>exact ⟨k+1,lo+1,c9,a9,Ko++[⟨rr,ya,yc⟩],hlt,by go_num,rfl,by omega,Y4⟩
    case measure=>simp [intOf];omega
   ·have e1:decide (u<rr.seq)=false:=decide_eq_false hq
    have Y4:=zz (show J49 w K u (k+1) (.slice a lo c) lo Ko wr from ⟨HI.out.row,by
     rw [HI.out.eq,HT.out];unfold Zz;rw [List.filter_append,List.filter_cons_of_neg (by simpa using hq)];simp⟩)
    clear hq hkp;go_wp2_with fail
    go_roundw
    case rel=>exact ⟨k+1,lo,c,a,Ko,hlt,by go_num,rfl,by omega,Y4⟩
    case measure=>simp [intOf];omega
  ·obtain rfl:n=k:=by omega
   clear hge;have hKo:Ko=Zz u K:=by rw [HI.out.eq,H.out.2,List.take_length]
   have hcell:=hkp.get H.out.1.cell λe=>e;have f23:=Qh hcell 23;have hlo:=HI.out.row.1
   have HE:=zz (show Vo (wr.setCell ⟨x,23,none⟩ (.slice a lo c)) x r y P o (Xg st u) la lc cs a c (Zz u K)/\(∀g,(Value.slice a (Zz u K).length c).ownBlock=some g->w.heap.size<=g)/\Kp (Mer.One x) w (wr.setCell ⟨x,23,none⟩ (.slice a lo c)) from by
    have ho:=HI.out.row.2.1;rw [hlo,hKo] at ho
    have hnb: ∀g,(Value.slice a (Zz u K).length c).ownBlock=some g->w.heap.size<=g:=by
     have:=HI.out.row.2.2.1;rw [hlo,hKo] at this;exact this
    have h2:=H.out.1.Q5n (K':=Zz u K) hkp ho hnb (λz hz=>H.out.1.kept.vals z (List.mem_filter.1 hz).1);rw [hlo,hKo];refine ⟨?_,hnb,(Kp.Qx hkp).Q0 ((Kp.refl (Mer.One x) wr).setCell (p:=⟨x,23,none⟩) (.inl (show Mer.One x x from rfl)) _)⟩
    have e:Xg st u={st with kept:=(Zz u K).map Qe.r}:=by
     unfold Xg;rw [Qdh,H.out.1.Ez]
    rw [e];exact h2)
   clear hkp hKo hcell hlo;go_wp2_with fail
   exact bodyPost_end (results_none rfl _ _ _) rfl ⟨rfl,a,c,HE.out⟩
end Go.Proofs.YtgnkmjeoaoongaaGreatDoor
