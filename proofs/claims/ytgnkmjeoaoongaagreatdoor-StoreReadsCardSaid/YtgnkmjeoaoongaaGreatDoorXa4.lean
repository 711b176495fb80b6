/-
  DiskGate, DiskWr2, Sum.
-/
import Derived.Test.YtgnkmjeoaoongaaGreatDoorXa2
import Derived.Test.YtgnkmjeoaoongaaGreatDoorXa3
import Derived.BigQuiet
set_option maxRecDepth 100000
set_option maxHeartbeats 800000
namespace Go.Proofs.YtgnkmjeoaoongaaGreatDoor
open Go.RowKit Go.Mer
def Qsz (d:Nat) (fused:Bool) (left:Int) (R:Int->World->Prop) (e:Ending) (w':World):Prop:=
 ∃r w2,R r w2/\e= .returned (.int .i64 r)/\w'=if r=0/\fused=true then w2.setCell ⟨d,3,none⟩ (.int .i64 (left-1)) else w2
theorem Qbt (d k:Nat) (room left:Int) (mp:Value) (fused:Bool) (hf:fused=false\/0<left) (hlm:left<=9223372036854775807) (na:Option Addr) (nc:Nat) (ns:List ByteArray) (N:Int) (pv:Value) (w:World)
  (hd:w.heap[d]?=some (.cells #[.int .i64 room,mp, .bool fused, .int .i64 left] 161 (0,0)))
  (hns:Rd w w.heap.size na (ns.map Value.string)) (hnl:ns.length<=1000) (hok: ∀s∈ns,Jh s=true) (R:Int->World->Prop)
  (hR: ∀r w2,R r w2-> ∃room' mp',w2.heap[d]?=some (.cells #[.int .i64 room',mp', .bool fused, .int .i64 left] 161 (0,0)))
  (hcf: ∀args w,(callFunc k args).run Tryz.prog w= .ok (.enter k args) w)
  (hk: ∀w1,Kp No w w1->Calls Tryz.prog k #[.pointer (some ⟨d,0,none⟩), .agg #[.slice na ns.length nc, .int .i64 N,pv]] w1 λe w2=> ∃r:Int,e= .returned (.int .i64 r)/\R r w2):
  Calls Tryz.prog 153 #[.pointer (some ⟨d,0,none⟩), .func (.func k) #[.pointer (some ⟨d,0,none⟩)] #[], .agg #[.slice na ns.length nc, .int .i64 N,pv]] w (Qsz d fused left R):=by
 have hdl:=Q3 hd;have c2:=Q0 hd 2;have c3:=Q0 hd 3;simp at c2 c3
 have HR:=zz hR;have HK:=zz hk;have HO:=zz hok;have HN:=zz hns;clear hR hk hok hns;have hl1:fused=true->0<left:=λh=>hf.resolve_left (by rw [h];simp);have hl0:fused=true->((left:Int)==0)=false:=λh=>by have:=hl1 h;simp;omega
 cases fused
 all_goals
  first
   |(have hl2:=hl1 rfl;have hl3:=hl0 rfl;clear hl1 hl0 hf)
   |clear hl1 hl0 hf
  go_enter Tryz.func153,Tryz.ntmps153
  go_wp2_with fail
  go_loop [28] (λi=> ∃j:Nat,j<=ns.length/\i= .int .i64 j) (λi=>ns.length-(intOf i).toNat)
  case atStart=>exact ⟨0,Nat.zero_le _,rfl⟩
  case round=>
   obtain ⟨j,hj,rfl⟩:=hrel;by_cases hlt:j<ns.length
   ·obtain ⟨g,off,rfl,hg,_,hc⟩:=HN.out.at_ (i:=j) (u:= .string ns[j]) (by simp [hlt]);have hn:=HO.out ns[j] (List.getElem_mem hlt);simp only [Jh,Bool.and_eq_true,decide_eq_true_eq] at hn;obtain ⟨hn1,hn2⟩:=hn;go_wp2_with fail
    go_round
    case rel=>exact ⟨j+1,by omega,by go_num⟩
    case measure=>simp [intOf];omega
   ·go_wp2_with fail
    refine (HK.out _ (zK.alloc _)).mono ?_;rintro e w2 ⟨r,rfl,hr⟩;obtain ⟨room',mp',hd'⟩:=HR.out r w2 hr;have c2':=Q0 hd' 2;have c3':=Q0 hd' 3;have f3':=Qc hd' 3;simp at c2' c3'
    have HR2:=zz hr;clear hr hd' c2 c3 hd;by_cases hr0:r=0
    ·have HZ:=zz hr0;have hrz:(r==0)=true:=by simp [hr0]
     clear hr0;go_wp2_with fail
     go_ret
     exact ⟨r,_,HR2.out,rfl,by simp [HZ.out]⟩
    ·have hrz:(r==0)=false:=by simp [hr0]
     go_wp2_with fail
     go_ret
     exact ⟨r,_,HR2.out,rfl,by simp [hr0]⟩
theorem Qbs (d:Nat) (room:Int) (mp:Value) (fv wv:Value) (w:World) (hw1: ∃a b c,wv= .agg #[a,b,c])
  (hd:w.heap[d]?=some (.cells #[.int .i64 room,mp, .bool true, .int .i64 0] 161 (0,0))):
  Calls Tryz.prog 153 #[.pointer (some ⟨d,0,none⟩),fv,wv] w λe w'=>e= .returned (.int .i64 9)/\Kp No w w':=by
 have hdl:=Q3 hd;have c2:=Q0 hd 2;have c3:=Q0 hd 3;simp at c2 c3
 obtain ⟨a,b,c,rfl⟩:=hw1;go_enter Tryz.func153,Tryz.ntmps153
 go_wp2_with fail
 go_ret
 exact ⟨rfl,zK.alloc _⟩
theorem Qft (d:Nat) (room left:Int) (mp fv:Value) (fused:Bool) (hf:fused=false\/0<left) (na:Option Addr) (nc:Nat) (ns:List ByteArray) (N:Int) (pv:Value) (w:World)
  (hd:w.heap[d]?=some (.cells #[.int .i64 room,mp, .bool fused, .int .i64 left] 161 (0,0)))
  (hns:Rd w w.heap.size na (ns.map Value.string)) (hnl:ns.length<=1000) (hbad:ns.all Jh=false):
  Calls Tryz.prog 153 #[.pointer (some ⟨d,0,none⟩),fv, .agg #[.slice na ns.length nc, .int .i64 N,pv]] w λe w'=>e= .returned (.int .i64 1)/\Kp No w w':=by
 have hdl:=Q3 hd;have c2:=Q0 hd 2;have c3:=Q0 hd 3;simp at c2 c3
 have HN:=zz hns;have HB:=zz hbad;clear hns hbad;have hl1:fused=true->0<left:=λh=>hf.resolve_left (by rw [h];simp);have hl0:fused=true->((left:Int)==0)=false:=λh=>by have:=hl1 h;simp;omega
 cases fused
 all_goals
  first
   |(have hl2:=hl1 rfl;have hl3:=hl0 rfl;clear hl1 hl0 hf)
   |clear hl1 hl0 hf
  go_enter Tryz.func153,Tryz.ntmps153
  go_wp2_with fail
  go_loop [28] (λi=> ∃j:Nat,j<=ns.length/\i= .int .i64 j/\Hid ((ns.take j).all Jh=true)) (λi=>ns.length-(intOf i).toNat)
  case atStart=>exact ⟨0,Nat.zero_le _,rfl,rfl⟩
  case round=>
   obtain ⟨j,hj,rfl,ht⟩:=hrel
   have hlt:j<ns.length:=by
    rcases Nat.lt_or_ge j ns.length with h|h
    ·exact h
    ·have h1:=ht.out;rw [List.take_of_length_le h] at h1;rw [HB.out] at h1;cases h1
   obtain ⟨g,off,rfl,hg,_,hc⟩:=HN.out.at_ (i:=j) (u:= .string ns[j]) (by simp [hlt]);by_cases hn:Jh ns[j]=true
   ·have ht':Hid ((ns.take (j+1)).all Jh=true):=by
     show _=true
     rw [List.take_succ_eq_append_getElem hlt,List.all_append,ht.out];simp [hn]
    simp only [Jh,Bool.and_eq_true,decide_eq_true_eq] at hn;obtain ⟨hn1,hn2⟩:=hn;go_wp2_with fail
    go_round
    case rel=>exact ⟨j+1,by omega,by go_num,ht'⟩
    case measure=>simp [intOf];omega
   ·have hn':ns[j].size<1\/64<ns[j].size:=by
     simp only [Jh,Bool.and_eq_true,decide_eq_true_eq] at hn;omega
    clear hn ht;rcases hn' with hn'|hn'
    ·go_wp2_with fail
     go_ret
     exact ⟨rfl,zK.alloc _⟩
    ·have hn1: ¬ns[j].size<1:=by omega
     go_wp2_with fail
     go_ret
     exact ⟨rfl,zK.alloc _⟩
theorem Q99 (w:World) (d m room:Nat) (fused:Bool) (left:Int) (L:Zu) (hD:Z1 w d m room fused left L) (name:ByteArray)
  (na:Option Addr) (nc:Nat) (hns:Rd w w.heap.size na [Value.string name]) (N:Int) (pa:Option Addr) (pc:Nat) (p:List UInt8) (hfull:Jl (Zk L)+p.length<=room)
  (hp:Rd w w.heap.size pa (u8s p)) (c:Yj) (hc:Qo L name=some c):
  Calls Tryz.prog 235 #[.pointer (some ⟨d,0,none⟩), .agg #[.slice na 1 nc, .int .i64 N, .slice pa p.length pc]] w λe w'=>
   e= .returned (.int .i64 0)/\ ∃v,Z1 w' d m room fused left (Qt L name {c with v:=v,data:=c.data++p})/\Qv (FP d m L) (FP d m (Qt L name {c with v:=v,data:=c.data++p})) w/\Kp (FP d m L) w w':=by
 obtain ⟨i0,hi,hz0,hz1,hz2⟩:=info_parts infoByte;obtain ⟨g,off,rfl,hg,_,hcn⟩:=hns.at_ (i:=0) rfl;simp only [Nat.add_zero] at hcn;have FA:=facts hD (nc:=nc) (N:=N) (pv:=(.slice pa p.length pc)) hcn;have f1:=FA.d0;have f2:=FA.d1;have f3:=FA.b0;have f4:=FA.b1;have f5:=FA.b2;have f6:=FA.nm;have f7:=FA.look;have f8:=FA.many;have f9:=FA.dr;have hdl:=Q3 hD.cell;have H1:Kp No w (w.alloc (.cells #[.slice (some ⟨g,off,none⟩) 1 nc, .int .i64 N,(.slice pa p.length pc)] 236)):=zK.alloc _;have HD:=zz hD;clear FA hns hcn;have hU:=λW (h:Kp No w W)=>Lc W d m room fused left L (hD.Q5 h);have hfit:=hD.fits;have hroom:=hD.roomy;have Q19:(L.length:Int)<=4096:=by have:=hD.few;omega
 have hgd:decide ((room:Int)-(Jl (Zk L):Int)<(p.length:Int))=false:=by simp;omega
 have hf:=hD.files _ (Qw hc);have hfl:=Q3 hf.1;obtain ⟨fa,fc,hv,_⟩:=hf.2.1.rd
 have Qpr: ∀W,Kp No w W->W.cell? ⟨c.blk,0,none⟩=some (.slice fa c.data.length fc):=λW h=>by
  rw [Q0 (h.get hf.1 λx=>x),hv];rfl
 rw [hc] at f7;simp only [Option.map_some,Option.getD_some,Yj.ptr] at f7;have HF:=zz hf;have HC:=zz hc;have HP:=zz hp;have HV:=zz hv;have HI:=zz (And.intro hi (And.intro hz0 (And.intro hz1 hz2)));clear hf hv hc hp hi hz0 hz1 hz2;go_enter Tryz.func235,Tryz.ntmps235
 go_wp2_with fail
 obtain ⟨W1,hW1⟩: ∃W,W=w.alloc (.cells #[.slice (some ⟨g,off,none⟩) 1 nc, .int .i64 N, .slice pa p.length pc] 236):=⟨_,rfl⟩;rw [<-hW1] at f1 f2 f3 f4 f5 f6 f7 f8 f9 H1⊢;have HU:=zz hU;clear hW1 hU hD;refine zE [0,0,0,1,0,1,0,1,1,0] [0,1,2,4,3,5,6,7,8,9] ?_;repeat (first|refine zA ?_|refine zB ?_|refine zC ?_)
 refine Q6 (λnq=>?_);go_wp2_with fail
 have f0: ∀W,Kp No (W1.drewN nq) W->Kp No W1 W:=λW h=>h.of_drewN;refine zD No [0,0,0,0,0,0,0,0,2,0,0,0,0,0,0,0,0,0,0,0,0,0,0] [0,1,2,3,4,5,6,7,8,9,10,11,12,13,14,15,16,17,18,19,20,21,22] ?_;repeat (first|refine zA ?_|refine zB ?_|refine zC ?_)
 refine Q4 rfl rfl (λnu=>?_);go_wp2_with fail
 refine (HU.out _ (H1.drewN _)).mono ?_;rintro e W3 ⟨rfl,hk3⟩;go_wp2_with fail
 refine ⟨hk3.of_drewN.from_drewN _,?_⟩;have K3:Kp No W1 W3:=hk3.of_drewN;repeat (first|refine zA ?_|refine zB ?_|refine zC ?_)
 refine Q6 (λnq=>?_);clear hk3;go_wp2_with fail
 have K4: ∀n,Kp No w (W3.drewN n):=λn=>(H1.trans_same K3).drewN n;have K5: ∀n,Kp No W1 (W3.drewN n):=λn=>K3.drewN n;have J00:=λn=>Qpr _ (K4 n);have J7y:=λn=>f5 _ (K5 n);clear f1 f2 f3 f4 f5 f6 f7 f8 f9 f0 Qpr HU;refine zE [0,0,0,0,1,0,1,2,0,0,2] [0,1,2,3,5,4,6,7,8,9,10] ?_;repeat (first|refine zA ?_|refine zB ?_|refine zC ?_)
 refine Q4 rfl rfl (λng=>?_);rw [World.drewN_drewN];have KB:=K4 (nq+ng);have hfB:=HF.out.keep KB (λx=>x) (λ_ _ x=>x);have Qdz:=HP.out.keep KB (λ_ _ x=>x);have KL:=K4 (nq+ng);obtain ⟨WB,J57⟩: ∃W,W=W3.drewN (nq+ng):=⟨_,rfl⟩;rw [<-J57] at KB hfB Qdz⊢;clear J57 K4 K5 J00 J7y KL K3;obtain ⟨hi,hz0,hz1,hz2⟩:=HI.out
 obtain ⟨v',w',hrun,hown,hkp,hblk⟩:=Jk (P:=Tryz.prog) (w:=WB) 42 42 42 5 i0 (.int .u8 0) 1 1 Tryz.underlying42 ⟨_,Tryz.underlying42⟩ hi hz0 hz1 hz2 rfl
  c.v c.data.length (u8s c.data) hfB.2.1 (.slice pa p.length pc) p.length (u8s p) ⟨by simp [Zz],pa,pc,rfl,Qdz.mono KB.size (Nat.le_refl _)⟩ (Kk p)
  (by have:=Q2w (l:=Zk L) (p:=(name,c.abs)) (List.mem_map.2 ⟨(name,c),Qw HC.out,rfl⟩);simp only [Yj.abs] at this;simp only [maxLen];omega)
  (by have:=Q2w (l:=Zk L) (p:=(name,c.abs)) (List.mem_map.2 ⟨(name,c),Qw HC.out,rfl⟩);simp only [Yj.abs] at this;omega)
 have hne: ∀k,c.v.ownBlock=some k->k≠c.blk:=λk hk e=>by
  obtain ⟨cur,hcur⟩:=hfB.2.1.type k hk;exact Q7 hcur hfB.1 (by decide) e
 have hcell:=hkp.get hfB.1 (λh=>hne _ h rfl);rw [HV.out] at hrun;refine wpList_append_run rfl rfl rfl rfl hrun (wpList_nil ⟨rfl,trivial,?_⟩);obtain ⟨a',c',hv'⟩: ∃a' c',v'= .slice a' (c.data.length+p.length) c':=by obtain ⟨_,a',c',h,_⟩:=hown;exact ⟨a',c',h⟩
 subst hv'
 have cs: ∀n,(w'.drewN n).cell? ⟨c.blk,0,none⟩=some (.slice fa c.data.length fc):=λn=>by
  rw [Q0 (w:=w'.drewN n) hcell,HV.out];rfl
 have fs: ∀n,(w'.drewN n).frozen? ⟨c.blk,0,none⟩=false:=λn=>Qc (w:=w'.drewN n) hcell 0;have HO:=zz hown;have HK:=zz hkp;have HB:=zz hblk;have HL:=zz hcell;have HF2:=zz hfB;clear hown hkp hblk hcell hrun hi hz0 hz1 hz2 hfB Qdz hne HI;repeat (first|refine zA ?_|refine zB ?_|refine zC ?_)
 refine Q4 rfl rfl (λn2=>?_);go_wp2_with fail
 refine Q6 (λnq=>?_);go_wp2_with fail
 go_ret
 have hfw:=HF2.out;have hDB:=HD.out.Q5 KB
 have Qqq:Kp (λk=>k=c.blk\/c.v.ownBlock=some k) WB (((w'.drewN n2).setCell ⟨c.blk,0,none⟩ (.slice a' (c.data.length+p.length) c')).drewN nq):=
  (((HK.out.mono λ_ _ h=> .inr h).drewN n2).setCell (p:=⟨c.blk,0,none⟩) (.inl (.inl rfl)) _).drewN nq
 have hks:Kp (One c.blk) w' (((w'.drewN n2).setCell ⟨c.blk,0,none⟩ (.slice a' (c.data.length+p.length) c')).drewN nq):=
  (((Kp.refl (One c.blk) w').drewN n2).setCell (p:=⟨c.blk,0,none⟩) (.inl rfl) _).drewN nq
 have hcf:(((w'.drewN n2).setCell ⟨c.blk,0,none⟩ (.slice a' (c.data.length+p.length) c')).drewN nq).heap[c.blk]?=some (.cells #[.slice a' (c.data.length+p.length) c', .int .i64 (c.lasts:Int)] 164 (0,0)):=
  Qh (w:=w'.drewN n2) HL.out 0 _
 have hne: ∀k,(Value.slice a' (c.data.length+p.length) c').ownBlock=some k-> ¬One c.blk k:=λk hk e=>by
  obtain ⟨cur,hcur⟩:=HO.out.type k hk;exact Q7 hcur HL.out (by decide) e
 have hown:Own (((w'.drewN n2).setCell ⟨c.blk,0,none⟩ (.slice a' (c.data.length+p.length) c')).drewN nq) 5 1 (.slice a' (c.data.length+p.length) c') (c.data++p).length (u8s (c.data++p)):=by
  rw [Ax,List.length_append];exact HO.out.keep hks hne
 have htot:=Q1o (l:=Zk L) (k:=name) (x:=c.abs) (y:=⟨c.data++p,c.lasts⟩) (by rw [Dc];exact HD.out.keys) (by rw [Vn,HC.out];rfl)
 obtain ⟨h1,h2,h3⟩:=hDB.Qan (c':={c with v:= .slice a' (c.data.length+p.length) c',data:=c.data++p}) HC.out rfl Qqq
  ⟨hcf,hown,by have:=hfw.2.2;simp only [List.length_append];omega⟩ HB.out (by
   rw [Gj];simp only [Yj.abs,List.length_append] at htot⊢;omega)
 exact ⟨rfl,_,h1,λk hk=>(h2 k hk).imp id λh=>Nat.le_trans KB.size h,(Kp.of_no KB).trans_same h3⟩
def Ym (R:List Row):List UInt8:=(R.map Row.data).flatten
theorem Q0y (R:List Row) {j:Nat} (h:j<R.length):Ym (R.take (j+1))=Ym (R.take j)++R[j].data:=by
 rw [List.take_succ_eq_append_getElem h];unfold Ym;rw [List.map_append,List.flatten_append];simp
theorem Aq (l:List UInt8) {k:Nat} (h:k<l.length):l.take (k+1)=l.take k++[l[k]]:=List.take_succ_eq_append_getElem h
theorem Qx8 {z:Nat} (h:z<4294967296):bits .and .u32 (z:Int) 1=((z % 2:Nat):Int):=by
 have:=Cu (k:= .u32) rfl (a:=z) (b:=1) h (by decide);rw [Nat.and_one_is_mod] at this;exact this
theorem Qfh {z:Nat} (h:z<4294967296):bits .xor .u32 ((z:Int)/2) (bits .and .u32 3988292384 (-bits .and .u32 (z:Int) 1 % 4294967296))=((U0 z:Nat):Int):=by
 rw [Qx8 h];have e2:(z:Int)/2=((z/2:Nat):Int):=by omega
 rw [e2];unfold U0;by_cases h1:z % 2=1
 ·rw [if_pos h1,h1];have e3:bits .and .u32 3988292384 (-((1:Nat):Int) % 4294967296)=((3988292384:Nat):Int):=by decide+kernel
  rw [e3];exact Gf rfl (by show _<2^32;omega) (by decide)
 ·rw [if_neg h1,show z % 2=0 from by omega];have e3:bits .and .u32 3988292384 (-((0:Nat):Int) % 4294967296)=((0:Nat):Int):=by decide+kernel
  rw [e3,Gf rfl (by show _<2^32;omega) (by decide),Nat.xor_zero]
theorem Qbn {z:Nat} (h:z<4294967296) (h1:z % 2=1):bits .xor .u32 ((z:Int)/2) 3988292384=((U0 z:Nat):Int):=by
 have e2:(z:Int)/2=((z/2:Nat):Int):=by omega
 unfold U0;rw [if_pos h1,e2];exact Gf (b:=3988292384) rfl (by show _<2^32;omega) (by decide)
theorem Q9q {z:Nat} (h:z<4294967296):bits .xor .u32 IntKind.u32.max (z:Int)=((z^^^4294967295:Nat):Int):=by
 have:=Gf (k:= .u32) rfl (a:=4294967295) (b:=z) (by decide) h;rw [Nat.xor_comm] at this;exact this
theorem Qk8 (w:World) (a:Option Addr) (cap:Nat) (R:List Row) (hR:X8 w a R) (hl:R.length<=140737488355328):
  Calls Tryz.prog 234 #[.slice a R.length cap] w λe w'=>e= .returned (.int .u32 (crc (Ym R):Int))/\w=w':=by
 have HR:=zz hR;clear hR;go_enter Tryz.func234,Tryz.ntmps234
 go_wp2_with fail
 go_loop [3,10] (λv i=> ∃j c:Nat,j<=R.length/\i= .int .i64 j/\v= .int .u32 (c:Int)/\Hid (c=Ux 4294967295 (Ym (R.take j)))/\c<4294967296) (λ_ i=>R.length-(intOf i).toNat)
 case atStart=>exact ⟨0,4294967295,Nat.zero_le _,rfl,rfl,rfl,by decide⟩
 case round=>
  obtain ⟨j,c,hj,rfl,rfl,HC,hc⟩:=hrel;by_cases hlt:j<R.length
  ·obtain ⟨g0,J2t,rfl,hg0,hc0,hr0,hm0⟩:=HR.out.at_ zK hlt;have HS:=zz (Q0y R hlt);obtain ⟨D,hD⟩: ∃D,D=R[j].data:=⟨_,rfl⟩;obtain ⟨ra,hra⟩: ∃ra,ra=R[j].a:=⟨_,rfl⟩;obtain ⟨rc,hrc⟩: ∃rc,rc=R[j].cap:=⟨_,rfl⟩;rw [<-hD,<-hra] at hr0;rw [<-hD,<-hra,<-hrc] at hc0;rw [<-hD] at hm0 HS;clear hD hra hrc;have HR0:=zz hr0;clear hr0;go_wp2_with fail
   go_loop [3,16] (λv i=> ∃k c':Nat,k<=D.length/\i= .int .i64 k/\v= .int .u32 (c':Int)/\Hid (c'=Ux c (D.take k))/\c'<4294967296) (λ_ i=>D.length-(intOf i).toNat)
   case atStart=>exact ⟨0,c,Nat.zero_le _,rfl,rfl,rfl,hc⟩
   case round=>
    obtain ⟨k,c',hk,rfl,rfl,Qt6,hc'⟩:=hrel;by_cases hkl:k<D.length
    ·obtain ⟨g,off,rfl,hg,_,hcell⟩:=HR0.out.byte hkl;have HT:=zz (Aq D hkl);have hlt1:=Qix hc' D[k];have hb8:=D[k].toNat_lt;obtain ⟨bv,hbv⟩: ∃bv,bv=D[k].toNat:=⟨_,rfl⟩;rw [<-hbv] at hcell hlt1 hb8;have hx:=Gf (k:= .u32) rfl (a:=c') (b:=bv) hc' (by show _<2^32;omega);obtain ⟨y,hy⟩: ∃y,y=c'^^^bv:=⟨_,rfl⟩;rw [<-hy] at hx hlt1;have HY:=zz hy;have HB:=zz hbv;clear hy hbv;go_wp2_with fail
     go_loop [3,24] (λv i=> ∃q z:Nat,q<=8/\i= .int .i64 q/\v= .int .u32 (z:Int)/\Hid (z=K0 q y)/\z<4294967296) (λ_ i=>8-(intOf i).toNat)
     case atStart=>exact ⟨0,y,Nat.zero_le _,rfl,rfl,rfl,hlt1⟩
     case round=>
      obtain ⟨q,z,hq,rfl,rfl,HZ,hz⟩:=hrel;clear hx;by_cases hq8:q<8
      ·go_wp2_with fail
       go_round
       case rel=>exact ⟨q+1,U0 z,by omega,by go_num,by rw [Qfh hz],by show _=_;rw [K6,<-show z=_ from HZ.out],I1 hz⟩
       case measure=>simp [intOf];omega
      ·obtain rfl:q=8:=by omega
       go_wp2_with fail
       go_round
       case rel=>
        refine ⟨k+1,z,by omega,by go_num,rfl,?_,hz⟩;show z=_
        rw [HT.out,Iy,<-show c'=_ from Qt6.out,show z=_ from HZ.out,show y=_ from HY.out,show bv=_ from HB.out];rfl
       case measure=>simp [intOf];omega
    ·obtain rfl:k=D.length:=by omega
     go_wp2_with fail
     go_round
     case rel=>
      refine ⟨j+1,c',by omega,by go_num,rfl,?_,hc'⟩;show c'=_
      rw [HS.out,Q0g,<-show c=_ from HC.out,show c'=_ from Qt6.out,List.take_length]
     case measure=>simp [intOf];omega
  ·obtain rfl:j=R.length:=by omega
   go_wp2_with fail
   go_ret
   refine ⟨?_,rfl⟩;have:crc (Ym R)=c^^^4294967295:=by rw [show c=_ from HC.out,List.take_length];rfl
   rw [this,<-Q9q hc];rfl
theorem Qi0 (w:World) (a:Option Addr) (cap:Nat) (D:List UInt8) (hD:Rd w w.heap.size a (u8s D)) (hl:D.length<=140737488355328):
  Calls Tryz.prog 250 #[.slice a D.length cap] w λe w'=>e= .returned (.int .u32 (crc D:Int))/\w=w':=by
 have HD:=zz hD;clear hD;go_enter Tryz.func250,Tryz.ntmps250
 go_wp2_with fail
 go_loop [3,4] (λv i=> ∃k c':Nat,k<=D.length/\i= .int .i64 k/\v= .int .u32 (c':Int)/\Hid (c'=Ux 4294967295 (D.take k))/\c'<4294967296) (λ_ i=>D.length-(intOf i).toNat)
 case atStart=>exact ⟨0,4294967295,Nat.zero_le _,rfl,rfl,rfl,by decide⟩
 case round=>
  obtain ⟨k,c',hk,rfl,rfl,Qt6,hc'⟩:=hrel;by_cases hkl:k<D.length
  ·obtain ⟨g,off,rfl,hg,_,hcell⟩:=HD.out.byte hkl;have HT:=zz (Aq D hkl);have hlt1:=Qix hc' D[k];have hb8:=D[k].toNat_lt;obtain ⟨bv,hbv⟩: ∃bv,bv=D[k].toNat:=⟨_,rfl⟩;rw [<-hbv] at hcell hlt1 hb8;have hx:=Gf (k:= .u32) rfl (a:=c') (b:=bv) hc' (by show _<2^32;omega);obtain ⟨y,hy⟩: ∃y,y=c'^^^bv:=⟨_,rfl⟩;rw [<-hy] at hx hlt1;have HY:=zz hy;have HB:=zz hbv;clear hy hbv;go_wp2_with fail
   go_loop [3,5] (λv i=> ∃q z:Nat,q<=8/\i= .int .i64 q/\v= .int .u32 (z:Int)/\Hid (z=K0 q y)/\z<4294967296) (λ_ i=>8-(intOf i).toNat)
   case atStart=>exact ⟨0,y,Nat.zero_le _,rfl,rfl,rfl,hlt1⟩
   case round=>
    obtain ⟨q,z,hq,rfl,rfl,HZ,hz⟩:=hrel;clear hx;by_cases hq8:q<8
    ·have HL:=zz (Qx8 hz);by_cases h1:z % 2=1
     ·have HN:=zz (Qbn hz h1);have hlo:bits .and .u32 (z:Int) 1=1:=by rw [HL.out,h1];rfl
      have HH:=zz h1;clear h1;go_wp2_with fail
      go_round
      case rel=>exact ⟨q+1,U0 z,by omega,by go_num,by rw [HN.out],by show _=_;rw [K6,<-show z=_ from HZ.out],I1 hz⟩
      case measure=>simp [intOf];omega
     ·have e0:U0 z=z/2:=by unfold U0;rw [if_neg h1]
      have hlo:bits .and .u32 (z:Int) 1=0:=by rw [HL.out,show z % 2=0 from by omega];rfl
      have HE:=zz e0;have HH:=zz h1;clear h1 e0;go_wp2_with fail
      go_round
      case rel=>exact ⟨q+1,z/2,by omega,by go_num,by go_num,by show _=_;rw [K6,<-show z=_ from HZ.out,HE.out],by omega⟩
      case measure=>simp [intOf];omega
    ·obtain rfl:q=8:=by omega
     go_wp2_with fail
     go_round
     case rel=>
      refine ⟨k+1,z,by omega,by go_num,rfl,?_,hz⟩;show z=_
      rw [HT.out,Iy,<-show c'=_ from Qt6.out,show z=_ from HZ.out,show y=_ from HY.out,show bv=_ from HB.out];rfl
     case measure=>simp [intOf];omega
  ·obtain rfl:k=D.length:=by omega
   go_wp2_with fail
   go_ret
   refine ⟨?_,rfl⟩;have:crc D=c'^^^4294967295:=by rw [show c'=_ from Qt6.out,List.take_length];rfl
   rw [this,<-Q9q hc'];rfl
end Go.Proofs.YtgnkmjeoaoongaaGreatDoor
