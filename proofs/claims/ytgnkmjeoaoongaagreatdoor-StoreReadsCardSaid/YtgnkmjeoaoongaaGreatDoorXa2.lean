/-
  DiskUsed, DiskOps, DiskWr1.
-/
import Derived.Test.YtgnkmjeoaoongaaGreatDoorXa1
import Derived.WalkSpells
import Derived.WalkLawsBesides
import Derived.Deep.LoopGhost
set_option maxHeartbeats 800000
namespace Go.Proofs.YtgnkmjeoaoongaaGreatDoor
open Go.RowKit Go.Mer
theorem Qi3 {k:IntKind} {a b:Int} (h:a=b):Ending.returned (.int k a)= .returned (.int k b):=by rw [h]
theorem D4 (a:Option Addr) (c:Nat) (xs:List UInt8) (B:Nat) (w:World) (hr:Rd w B a (u8s xs)) (hm:xs.length<=140737488355328):
  Calls Tryz.prog 103 #[.slice a xs.length c] w λe w'=> ∃v,e= .returned v/\Own w' 5 1 v xs.length (u8s xs)/\Kp No w w'/\ ∀g,v.ownBlock=some g->w.heap.size<=g:=by
 obtain ⟨i0,hi,hz0,hz1,hz2⟩:=info_parts infoByte;cases a with
 |none=>
  have hx:xs=[]:=by
   rcases Nat.eq_zero_or_pos xs.length with h|h
   ·exact List.eq_nil_of_length_eq_zero h
   ·obtain ⟨g,off,h1,_⟩:=hr (by rw [Zz];exact h);cases h1
  subst hx;have hq:=λw=>Lib.run_eql_slice_nil (P:=Tryz.prog) w 42 5 none 0 c 0 0 Tryz.underlying42;simp only [List.length_nil];go_enter Tryz.func103,Tryz.ntmps103
  go_wp2_with fail
  go_ret
  exact ⟨_,rfl,Own.nil _ _ _,Kp.refl _ _,λg h=>by simp [Value.ownBlock] at h⟩
 |some ad=>
  have hq:=λw=>Lib.run_eql_slice_nil (P:=Tryz.prog) w 42 5 (some ad) xs.length c 0 0 Tryz.underlying42;have hal:Kp No w (w.alloc (.cells #[] 5)):=zK.alloc _;have hown0:Own (w.alloc (.cells #[] 5)) 5 1 (.slice (some ⟨w.heap.size,0,none⟩) 0 0) 0 []:=Own.made w 5 1 #[] 0 0 (Nat.le_refl _) (by simp [maxLen]) (by simp) rfl
  have hsrc:Src (w.alloc (.cells #[] 5)) 1 (.slice (some ad) xs.length c) xs.length (u8s xs):=⟨by simp [Zz],some ad,c,rfl,λhx=>by
   obtain ⟨g,off,h1,h2,h3,h4⟩:=hr hx;exact ⟨g,off,h1,by simp;omega,Nat.le_refl _,λj u hu=>(hal.cell (p:=⟨g,off+j,none⟩) (by show g<_;omega) (λx=>x)).trans (h4 j u hu)⟩⟩
  obtain ⟨v1,w1,hrun,hown,hkp,hblk⟩:=Jk (P:=Tryz.prog) (w:=w.alloc (.cells #[] 5)) 42 42 42 5 i0 (.int .u8 0) 1 1 Tryz.underlying42 ⟨_,Tryz.underlying42⟩ hi hz0 hz1 hz2 rfl
   (.slice (some ⟨w.heap.size,0,none⟩) 0 0) 0 [] hown0 (.slice (some ad) xs.length c) xs.length (u8s xs) hsrc (Kk xs) (by simp only [maxLen];omega) (by omega)
  have HO:=zz hown;have HK:=zz hkp;have HB:=zz hblk;have HR:=zz hrun;clear hown hkp hblk hown0 hsrc hz0 hz1 hz2 hi hrun;go_enter Tryz.func103,Tryz.ntmps103
  go_wp2_with (at_builtin;refine wpList_append_run rfl rfl rfl rfl HR.out ?_)
  go_ret
  refine ⟨_,rfl,by simpa using HO.out,hal.trans HK.out (λk hk h=>by simp [Value.ownBlock] at h;omega),λg hg=>?_⟩;rcases HB.out with h|⟨g',h,h'⟩
  ·have hg2:v1.ownBlock=some g:=hg;rw [h] at hg2;simp [Value.ownBlock] at hg2
   omega
  ·have hg2:v1.ownBlock=some g:=hg;rw [h] at hg2;injection hg2 with hg2;simp at h'
   omega
theorem Qlw (room:Nat) (w:World) (hhi:room<=1073741824):
  Calls Tryz.prog 53 #[.int .i64 (room:Int)] w λe w'=>
   e= .returned (.tuple #[.pointer (some ⟨w.heap.size+1,0,none⟩), .int .i64 0])/\Kp No w w'/\ ∃F,Zd w' (w.heap.size+1) ⟨room,none,[]⟩ F/\ ∀k,F k->w.heap.size<=k:=by
 have hmm:= @run_makeMap Tryz.prog;go_enter Tryz.func53,Tryz.ntmps53
 go_wp2_with fail
 go_ret2
 refine ⟨rfl,(zK.alloc _).alloc _,λk=>k=w.heap.size\/k=w.heap.size+1,⟨w.heap.size,false,0,[],?_,rfl,rfl,?_,?_⟩,?_⟩
 ·refine {cell:=?_,map:=?_,files:=(by simp),C0:=(by simp),rows:=(by simp),fits:=(by simp [Zk,Jl]),roomy:=hhi,few:=(by simp),left0:=(by simp),Mq:=(by simp)}
  ·have:=heap_alloc_new (w.alloc (.map #[] 0)) (.cells #[.int .i64 (room:Int), .map (some w.heap.size), .bool false, .int .i64 0] 161);simpa using this
  ·exact (Vi.made Value.string w).of_heap (by
    rw [Below.heap_alloc _ _ _ (by simp)])
 ·rintro k (rfl|rfl|⟨p,hp,_⟩)
  ·exact .inr rfl
  ·exact .inl rfl
  ·cases hp
 ·rintro k (rfl|rfl)<;>simp<;>omega
 ·rintro k (rfl|rfl)<;>omega
theorem Lc (w:World) (d m room:Nat) (fused:Bool) (left:Int) (L:Zu) (hD:Z1 w d m room fused left L):
  Calls Tryz.prog 273 #[.pointer (some ⟨d,0,none⟩)] w λe w'=>e= .returned (.int .i64 (Jl (Zk L):Int))/\Kp No w w':=by
 have HD:=zz hD;have c1:=Q0 hD.cell 1;simp at c1
 obtain ⟨o,hrun,hit⟩:=Hp (P:=Tryz.prog) Tryz.underlying159 hD.map;have HI:=zz hit;clear hit hD;go_enter Tryz.func273,Tryz.ntmps273
 go_wp2_with fail
 go_loopg [3] (Ot (Zk L) []) (λg n wr=> ∃V,g=Ot (Zk L) V/\Hid (Xv Value.string wr w.heap.size m (Dl L) V)/\Kp No w wr/\n= .int .i64 (Q0m (Zk L) V:Int))
 case atStart=>exact ⟨[],rfl,HI.out,zK.alloc _,by rw [Qig];rfl⟩
 case round=>
  obtain ⟨V,rfl,hI,hk,rfl⟩:=hrel;have hD':=HD.out.Q5 hk;have hsum:=Qas (Zk L) V;have hfit:=hD'.fits;have hroom:=hD'.roomy;rcases Ae (P:=Tryz.prog) 0 hI.out with ⟨hall,hnext⟩|⟨p,hp,Qlc,n,o',hnext,hI',hent⟩
  ·have ht:=Qif (l:=Zk L) (V:=V) (λq hq=>by
    obtain ⟨x,hx,rfl⟩:=List.mem_map.1 hq;exact hall (x.1,x.2.ptr) (List.mem_map.2 ⟨x,hx,rfl⟩))
   have HT:=zz ht;clear ht hall hD';go_wp2_with fail
   go_ret
   exact ⟨Qi3 (by rw [HT.out]),hk⟩
  ·obtain ⟨x,hx,rfl⟩:=List.mem_map.1 hp;have hxa:(x.1,x.2.abs)∈Zk L:=List.mem_map.2 ⟨x,hx,rfl⟩;have hst:=Qcx (V:=V) (by rw [Dc];exact HD.out.keys) hxa Qlc;have Qww:=Qas (Zk L) (x.1::V);have hre:=(Eo (V:=V) (by rw [Dc];exact HD.out.keys) hxa Qlc).2;have hrm:w.heap.size≠m:=hI.out.ne;have hk':Kp No w (ChangeMaps.setBlock (wr.drewN n) w.heap.size o'):=(hk.drewN n).setBlock (.inr (Nat.le_refl _)) o';have hrl:w.heap.size<wr.heap.size:=hI.out.lt;have hf:=(HD.out.Q5 hk').files x hx;have cf:=Q0 hf.1 0;simp at cf
   obtain ⟨fa,fc,hv,_⟩:=hf.2.1.rd;have cf':(ChangeMaps.setBlock (wr.drewN n) w.heap.size o').cell? ⟨x.2.blk,0,none⟩=some (.slice fa x.2.data.length fc):=by rw [<-hv];exact cf
   have hnx:(Instr.next (.pointer (some ⟨w.heap.size,0,none⟩)) false 0).run Tryz.prog wr= .ok (.tuple #[.bool true, .string x.1, .pointer (some ⟨x.2.blk,0,none⟩)]) (ChangeMaps.setBlock (wr.drewN n) w.heap.size o'):=hnext
   have hen:(Instr.entry (.pointer (some ⟨w.heap.size,0,none⟩))).run Tryz.prog (ChangeMaps.setBlock (wr.drewN n) w.heap.size o')= .ok (.tuple #[.string x.1, .pointer (some ⟨x.2.blk,0,none⟩)]) (ChangeMaps.setBlock (wr.drewN n) w.heap.size o'):=
    hent _ (Up (w:=wr.drewN n) hrl o') (by show (wr.heap.setIfInBounds _ o')[m]?=_;rw [Array.getElem?_setIfInBounds_ne hrm])
   have hI2:=zz hI';have hadd:Q0m (Zk L) V+x.2.data.length<=Jl (Zk L):=by have:=hst;simp only [Yj.abs] at this;omega
   have hst':=zz hst;have J1t:=zz hre;obtain ⟨W2,hW2⟩: ∃W,W=ChangeMaps.setBlock (wr.drewN n) w.heap.size o':=⟨_,rfl⟩;rw [<-hW2] at cf' hnx hen hI2 hk';clear hW2 hnext hent hI' hst hre hv cf hf Qww hxa hp Qlc hI hD' hk;go_wp2_with fail
   go_roundg (Ot (Zk L) (x.1::V))
   case measure=>have:=J1t.out;omega
   case rel=>exact ⟨x.1::V,rfl,hI2.out,hk',by rw [hst'.out];go_num⟩
structure Qsx (W1:World) (d m b g off:Nat) (na:Option Addr) (nc:Nat) (N:Int) (pv:Value) (room:Nat) (L:Zu) (name:ByteArray):Prop where
 d0: ∀W,Kp No W1 W->W.cell? ⟨d,0,none⟩=some (.int .i64 (room:Int))
 d1: ∀W,Kp No W1 W->W.cell? ⟨d,1,none⟩=some (.map (some m))
 b0: ∀W,Kp No W1 W->W.cell? ⟨b,0,none⟩=some (.slice na 1 nc)
 b1: ∀W,Kp No W1 W->W.cell? ⟨b,1,none⟩=some (.int .i64 N)
 b2: ∀W,Kp No W1 W->W.cell? ⟨b,2,none⟩=some pv
 nm: ∀W,Kp No W1 W->W.cell? ⟨g,off,none⟩=some (.string name)
 look: ∀W,Kp No W1 W->(Instr.lookup 159 (.map (some m)) (.string name) false).run Tryz.prog W= .ok (((Qo L name).map Yj.ptr).getD (.pointer none)) W
 many: ∀W,Kp No W1 W->(Builtin.len_ #[159] 3 #[.map (some m)]).run Tryz.prog W= .ok (.int .i64 (L.length:Int)) W
 dr: ∀n,Kp No W1 (W1.drewN n)
theorem facts {w:World} {d m room:Nat} {fused:Bool} {left:Int} {L:Zu} (hD:Z1 w d m room fused left L) {name:ByteArray} {g off nc:Nat} {N:Int} {pv:Value}
  (hg:w.cell? ⟨g,off,none⟩=some (.string name)):
  Qsx (w.alloc (.cells #[.slice (some ⟨g,off,none⟩) 1 nc, .int .i64 N,pv] 236)) d m w.heap.size g off (some ⟨g,off,none⟩) nc N pv room L name:=by
 have h1:Kp No w (w.alloc (.cells #[.slice (some ⟨g,off,none⟩) 1 nc, .int .i64 N,pv] 236)):=zK.alloc _;have hd: ∀W,Kp No (w.alloc (.cells #[.slice (some ⟨g,off,none⟩) 1 nc, .int .i64 N,pv] 236)) W->Z1 W d m room fused left L:=λW hW=>hD.Q5 (h1.trans_same hW)
 have hb: ∀W,Kp No (w.alloc (.cells #[.slice (some ⟨g,off,none⟩) 1 nc, .int .i64 N,pv] 236)) W->W.heap[w.heap.size]?=some (.cells #[.slice (some ⟨g,off,none⟩) 1 nc, .int .i64 N,pv] 236 (0,0)):=
  λW hW=>hW.get (heap_alloc_new w _) λx=>x
 have hgl:=World.block_lt_of_cell? w _ hg;refine ⟨λW hW=>?_,λW hW=>?_,λW hW=>?_,λW hW=>?_,λW hW=>?_,λW hW=>?_,λW hW=>?_,λW hW=>?_,λn=>zK.drewN n⟩
 ·rw [Q0 (hd W hW).cell];rfl
 ·rw [Q0 (hd W hW).cell];rfl
 ·rw [Q0 (hb W hW)];rfl
 ·rw [Q0 (hb W hW)];rfl
 ·rw [Q0 (hb W hW)];rfl
 ·exact ((h1.trans_same hW).cell hgl λx=>x).trans hg
 ·have:=Q1d (hd W hW).map name;rw [show Dl L=L.map λp=>(p.1,p.2.ptr) from rfl,Gh] at this;exact this
 ·have:=Qcm (P:=Tryz.prog) (ty:=3) Tryz.underlying159 (hd W hW).map;rw [show (Dl L).length=L.length from by simp [Dl]] at this;exact this
theorem Qcv (w:World) (d m room:Nat) (fused:Bool) (left:Int) (L:Zu) (hD:Z1 w d m room fused left L) (name:ByteArray) (c:Yj) (hc:Qo L name=some c)
  (na:Option Addr) (nc:Nat) (hns:Rd w w.heap.size na [Value.string name]) (N:Int) (pv:Value):
  Calls Tryz.prog 214 #[.pointer (some ⟨d,0,none⟩), .agg #[.slice na 1 nc, .int .i64 N,pv]] w λe w'=>
   e= .returned (.int .i64 0)/\Z1 w' d m room fused left (Qt L name {c with lasts:=c.data.length})/\Qv (FP d m L) (FP d m (Qt L name {c with lasts:=c.data.length})) w/\Kp (FP d m L) w w':=by
 obtain ⟨g,off,rfl,hg,_,hcn⟩:=hns.at_ (i:=0) rfl;simp only [Nat.add_zero] at hcn;have FA:=facts hD (nc:=nc) (N:=N) (pv:=pv) hcn;have f1:=FA.d0;have f2:=FA.d1;have f3:=FA.b0;have f4:=FA.b1;have f5:=FA.b2;have f6:=FA.nm;have f7:=FA.look;have f8:=FA.many;have f9:=FA.dr;have hdl:=Q3 hD.cell;have H1:Kp No w (w.alloc (.cells #[.slice (some ⟨g,off,none⟩) 1 nc, .int .i64 N,pv] 236)):=zK.alloc _;have HD:=zz hD;clear FA hns hcn;have hf:=hD.files _ (Qw hc);have hfl:=Q3 hf.1;obtain ⟨fa,fc,hv,_⟩:=hf.2.1.rd
 have Qpr: ∀n,((w.alloc (.cells #[.slice (some ⟨g,off,none⟩) 1 nc, .int .i64 N,pv] 236)).drewN n).cell? ⟨c.blk,0,none⟩=some (.slice fa c.data.length fc):=λn=>by
  rw [Q0 ((H1.drewN n).get hf.1 λx=>x),hv];rfl
 have cf1: ∀n,((w.alloc (.cells #[.slice (some ⟨g,off,none⟩) 1 nc, .int .i64 N,pv] 236)).drewN n).cell? ⟨c.blk,1,none⟩=some (.int .i64 (c.lasts:Int)):=λn=>by
  rw [Q0 ((H1.drewN n).get hf.1 λx=>x)];rfl
 have J7z: ∀n,((w.alloc (.cells #[.slice (some ⟨g,off,none⟩) 1 nc, .int .i64 N,pv] 236)).drewN n).frozen? ⟨c.blk,1,none⟩=false:=λn=>Qc ((H1.drewN n).get hf.1 λx=>x) 1;rw [hc] at f7;simp only [Option.map_some,Option.getD_some,Yj.ptr] at f7;have HF:=zz hf;have HC:=zz hc;clear hf hv hc f8 f1 f4 f5 hD;obtain ⟨W1,hW1⟩: ∃W,W=w.alloc (.cells #[.slice (some ⟨g,off,none⟩) 1 nc, .int .i64 N,pv] 236):=⟨_,rfl⟩;go_enter Tryz.func214,Tryz.ntmps214
 go_wp2_with fail
 rw [<-hW1] at f2 f3 f6 f7 f9 Qpr cf1 J7z H1⊢;clear hW1;refine zE [0,0,0,1,0,1,0,1,1,0] [0,1,2,4,3,5,6,7,8,9] ?_;repeat (first|refine zA ?_|refine zB ?_|refine zC ?_)
 refine Q6 (λnq=>?_);go_wp2_with fail
 go_ret
 have hD2:=HD.out.Q5 (H1.drewN nq);have hf2:=HF.out.keep (H1.drewN nq) (λx=>x) (λ_ _ x=>x);have hs:Kp (One c.blk) (W1.drewN nq) ((W1.drewN nq).setCell ⟨c.blk,1,none⟩ (.int .i64 (c.data.length:Int))):=(Kp.refl (One c.blk) _).setCell (p:=⟨c.blk,1,none⟩) (.inl rfl) _
 have hne: ∀k,c.v.ownBlock=some k->k≠c.blk:=λk hk e=>by
  obtain ⟨cur,hcur⟩:=hf2.2.1.type k hk;exact Q7 hcur hf2.1 (by decide) e
 obtain ⟨h1,h2,h3⟩:=hD2.Qan (c':={c with lasts:=c.data.length}) HC.out rfl (hs.mono λk _ hk=> .inl hk)
  ⟨by have:=Qh hf2.1 1 (.int .i64 (c.data.length:Int));simpa using this,hf2.2.1.keep hs (λk hk=>hne k hk),Nat.le_refl _⟩ (.inl rfl) (by
   rw [Gj];have:=Q1o (l:=Zk L) (k:=name) (x:=c.abs) (y:=Yj.abs {c with lasts:=c.data.length}) (by rw [Dc];exact HD.out.keys) (by rw [Vn,HC.out];rfl);have:=HD.out.fits;simp only [Yj.abs] at*;omega)
 exact ⟨rfl,h1,λk hk=>(h2 k hk).imp id λh=>Nat.le_trans (H1.drewN nq).size h,(Kp.of_no (H1.drewN nq)).trans_same h3⟩
theorem Qcu (w:World) (d m room:Nat) (fused:Bool) (left:Int) (L:Zu) (hD:Z1 w d m room fused left L) (name:ByteArray) (hc:Qo L name=none)
  (na:Option Addr) (nc:Nat) (hns:Rd w w.heap.size na [Value.string name]) (N:Int) (pv:Value):
  Calls Tryz.prog 214 #[.pointer (some ⟨d,0,none⟩), .agg #[.slice na 1 nc, .int .i64 N,pv]] w λe w'=>
   e= .returned (.int .i64 7)/\Kp No w w':=by
 obtain ⟨g,off,rfl,hg,_,hcn⟩:=hns.at_ (i:=0) rfl;simp only [Nat.add_zero] at hcn;have FA:=facts hD (nc:=nc) (N:=N) (pv:=pv) hcn;have f1:=FA.d0;have f2:=FA.d1;have f3:=FA.b0;have f4:=FA.b1;have f5:=FA.b2;have f6:=FA.nm;have f7:=FA.look;have f8:=FA.many;have f9:=FA.dr;have hdl:=Q3 hD.cell;have H1:Kp No w (w.alloc (.cells #[.slice (some ⟨g,off,none⟩) 1 nc, .int .i64 N,pv] 236)):=zK.alloc _;have HD:=zz hD;clear FA hns hcn;rw [hc] at f7;simp only [Option.map_none,Option.getD_none] at f7;clear hc f8 f1 f4 f5 hD;obtain ⟨W1,hW1⟩: ∃W,W=w.alloc (.cells #[.slice (some ⟨g,off,none⟩) 1 nc, .int .i64 N,pv] 236):=⟨_,rfl⟩;go_enter Tryz.func214,Tryz.ntmps214
 go_wp2_with fail
 rw [<-hW1] at f2 f3 f6 f7 f9 H1⊢;clear hW1;refine zE [0,0,0,1,0,1,0,1,1,0] [0,1,2,4,3,5,6,7,8,9] ?_;repeat (first|refine zA ?_|refine zB ?_|refine zC ?_)
 refine Q6 (λnq=>?_);go_wp2_with fail
 go_ret
 exact ⟨rfl,H1.drewN _⟩
theorem Q97 (w:World) (d m room:Nat) (fused:Bool) (left:Int) (L:Zu) (hD:Z1 w d m room fused left L) (name:ByteArray)
  (na:Option Addr) (nc:Nat) (hns:Rd w w.heap.size na [Value.string name]) (N:Int) (pa:Option Addr) (pc:Nat) (p:List UInt8) (hpm:p.length<=140737488355328) (hfull:room<Jl (Zk L)+p.length):
  Calls Tryz.prog 235 #[.pointer (some ⟨d,0,none⟩), .agg #[.slice na 1 nc, .int .i64 N, .slice pa p.length pc]] w λe w'=>
   e= .returned (.int .i64 6)/\Kp No w w':=by
 obtain ⟨g,off,rfl,hg,_,hcn⟩:=hns.at_ (i:=0) rfl;simp only [Nat.add_zero] at hcn;have FA:=facts hD (nc:=nc) (N:=N) (pv:=(.slice pa p.length pc)) hcn;have f1:=FA.d0;have f2:=FA.d1;have f3:=FA.b0;have f4:=FA.b1;have f5:=FA.b2;have f6:=FA.nm;have f7:=FA.look;have f8:=FA.many;have f9:=FA.dr;have hdl:=Q3 hD.cell;have H1:Kp No w (w.alloc (.cells #[.slice (some ⟨g,off,none⟩) 1 nc, .int .i64 N,(.slice pa p.length pc)] 236)):=zK.alloc _;have HD:=zz hD;clear FA hns hcn;have hU:=λW (h:Kp No w W)=>Lc W d m room fused left L (hD.Q5 h);have hfit:=hD.fits;have hroom:=hD.roomy;have Q19:(L.length:Int)<=4096:=by have:=hD.few;omega
 have hgt:((p.length:Int)>(room:Int)-(Jl (Zk L):Int)):=by omega
 have hgd:decide ((room:Int)-(Jl (Zk L):Int)<(p.length:Int))=true:=by simp;omega
 rcases hv:(Qo L name).map Yj.ptr with _|v
 all_goals
  rw [hv] at f7;clear hv;try simp only [Option.getD_none,Option.getD_some] at f7
  go_enter Tryz.func235,Tryz.ntmps235
  go_wp2_with fail
  obtain ⟨W1,hW1⟩: ∃W,W=w.alloc (.cells #[.slice (some ⟨g,off,none⟩) 1 nc, .int .i64 N, .slice pa p.length pc] 236):=⟨_,rfl⟩;rw [<-hW1] at f1 f2 f3 f4 f5 f6 f7 f8 f9 H1⊢;have HU:=zz hU;clear hW1 hU hD;refine zE [0,0,0,1,0,1,0,1,1,0] [0,1,2,4,3,5,6,7,8,9] ?_;repeat (first|refine zA ?_|refine zB ?_|refine zC ?_)
  refine Q6 (λnq=>?_);go_wp2_with fail
  have f0: ∀W,Kp No (W1.drewN nq) W->Kp No W1 W:=λW h=>h.of_drewN;refine zD No [0,0,0,0,0,0,0,0,2,0,0,0,0,0,0,0,0,0,0,0,0,0,0] [0,1,2,3,4,5,6,7,8,9,10,11,12,13,14,15,16,17,18,19,20,21,22] ?_;repeat (first|refine zA ?_|refine zB ?_|refine zC ?_)
  refine Q4 rfl rfl (λnu=>?_);go_wp2_with fail
  refine (HU.out _ (H1.drewN _)).mono ?_;rintro e W3 ⟨rfl,hk3⟩;go_wp2_with fail
  refine ⟨hk3.of_drewN.from_drewN _,?_⟩;have K3:Kp No W1 W3:=hk3.of_drewN;repeat (first|refine zA ?_|refine zB ?_|refine zC ?_)
  refine Q6 (λnq=>?_);clear hk3;go_wp2_with fail
  go_ret
  exact ⟨rfl,(H1.trans_same K3).drewN _⟩
theorem Q98 (w:World) (d m room:Nat) (fused:Bool) (left:Int) (L:Zu) (hD:Z1 w d m room fused left L) (name:ByteArray)
  (na:Option Addr) (nc:Nat) (hns:Rd w w.heap.size na [Value.string name]) (N:Int) (pa:Option Addr) (pc:Nat) (p:List UInt8) (hfull:Jl (Zk L)+p.length<=room)
  (hc:Qo L name=none) (Qw8:4096<=L.length):
  Calls Tryz.prog 235 #[.pointer (some ⟨d,0,none⟩), .agg #[.slice na 1 nc, .int .i64 N, .slice pa p.length pc]] w λe w'=>
   e= .returned (.int .i64 6)/\Kp No w w':=by
 obtain ⟨g,off,rfl,hg,_,hcn⟩:=hns.at_ (i:=0) rfl;simp only [Nat.add_zero] at hcn;have FA:=facts hD (nc:=nc) (N:=N) (pv:=(.slice pa p.length pc)) hcn;have f1:=FA.d0;have f2:=FA.d1;have f3:=FA.b0;have f4:=FA.b1;have f5:=FA.b2;have f6:=FA.nm;have f7:=FA.look;have f8:=FA.many;have f9:=FA.dr;have hdl:=Q3 hD.cell;have H1:Kp No w (w.alloc (.cells #[.slice (some ⟨g,off,none⟩) 1 nc, .int .i64 N,(.slice pa p.length pc)] 236)):=zK.alloc _;have HD:=zz hD;clear FA hns hcn;have hU:=λW (h:Kp No w W)=>Lc W d m room fused left L (hD.Q5 h);have hfit:=hD.fits;have hroom:=hD.roomy;have Q19:(L.length:Int)<=4096:=by have:=hD.few;omega
 have hgd:decide ((room:Int)-(Jl (Zk L):Int)<(p.length:Int))=false:=by simp;omega
 have hge:decide ((4096:Int)<=(L.length:Int))=true:=by simp;omega
 rw [hc] at f7;clear hc;simp only [Option.map_none,Option.getD_none] at f7;go_enter Tryz.func235,Tryz.ntmps235
 go_wp2_with fail
 obtain ⟨W1,hW1⟩: ∃W,W=w.alloc (.cells #[.slice (some ⟨g,off,none⟩) 1 nc, .int .i64 N, .slice pa p.length pc] 236):=⟨_,rfl⟩;rw [<-hW1] at f1 f2 f3 f4 f5 f6 f7 f8 f9 H1⊢;have HU:=zz hU;clear hW1 hU hD;refine zE [0,0,0,1,0,1,0,1,1,0] [0,1,2,4,3,5,6,7,8,9] ?_;repeat (first|refine zA ?_|refine zB ?_|refine zC ?_)
 refine Q6 (λnq=>?_);go_wp2_with fail
 have f0: ∀W,Kp No (W1.drewN nq) W->Kp No W1 W:=λW h=>h.of_drewN;refine zD No [0,0,0,0,0,0,0,0,2,0,0,0,0,0,0,0,0,0,0,0,0,0,0] [0,1,2,3,4,5,6,7,8,9,10,11,12,13,14,15,16,17,18,19,20,21,22] ?_;repeat (first|refine zA ?_|refine zB ?_|refine zC ?_)
 refine Q4 rfl rfl (λnu=>?_);go_wp2_with fail
 refine (HU.out _ (H1.drewN _)).mono ?_;rintro e W3 ⟨rfl,hk3⟩;go_wp2_with fail
 refine ⟨hk3.of_drewN.from_drewN _,?_⟩;have K3:Kp No W1 W3:=hk3.of_drewN;repeat (first|refine zA ?_|refine zB ?_|refine zC ?_)
 refine Q6 (λnq=>?_);clear hk3;go_wp2_with fail
 go_ret
 exact ⟨rfl,(H1.trans_same K3).drewN _⟩
end Go.Proofs.YtgnkmjeoaoongaaGreatDoor
