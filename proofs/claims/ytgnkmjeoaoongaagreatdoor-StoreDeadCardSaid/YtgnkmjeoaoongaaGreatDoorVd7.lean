/- store -/
import Derived.Test.YtgnkmjeoaoongaaGreatDoorVd6
import Derived.Test.YtgnkmjeoaoongaaGreatDoorRows
import Derived.Lib.SmallJoins
import Derived.Stop.LaidErr
import Derived.LaidMore
import Derived.Stop.Joined
import Derived.Lay
set_option maxRecDepth 100000
set_option maxHeartbeats 4000000
namespace Go.Proofs.YtgnkmjeoaoongaaGreatDoor
open Go.Proofs.Tryz (prog)
open Go.RowKit Go.Mer
def I64 (x:Int):Prop:= -9223372036854775808<=x/\x<=9223372036854775807
section
variable {W:World}
theorem Q03:prog.cellsOf 3=1:=by kernel_rfl
theorem Qp8:prog.cellsOf 4=1:=by kernel_rfl
theorem Qun:prog.cellsOf 9=1:=by kernel_rfl
theorem Qje:prog.cellsOf 42=1:=by kernel_rfl
theorem Qjf:prog.cellsOf 25=2:=by kernel_rfl
theorem Qp4:prog.bytesOf 5=1:=by kernel_rfl
theorem Qp9:prog.cellsOf 5=1:=by kernel_rfl
theorem Q09 {n:Nat} {a:Value} (h:Opn prog W n 3 [a]): ∃x:Int,a= .int .i64 x/\I64 x:=by
 obtain ⟨x,e,h1⟩:=Q70 h Tryz.underlying3;injection e with e;exact ⟨x,e,h1⟩
theorem Qpq {n:Nat} {a:Value} (h:Opn prog W n 4 [a]): ∃x:Bool,a= .bool x:=by
 obtain ⟨x,e⟩:=Qfs h Tryz.underlying4;injection e with e;exact ⟨x,e⟩
theorem Qus {n:Nat} {a:Value} (h:Opn prog W n 9 [a]): ∃s:ByteArray,a= .string s/\s.size<=140737488351232:=by
 obtain ⟨x,e,h1⟩:=Du h Tryz.underlying9;injection e with e;exact ⟨x,e,h1⟩
theorem Qk2 {n:Nat} {a:Value} (h:Opn prog W n 42 [a]): ∃(b:Option Addr) (cap:Nat) (l:List UInt8),a= .slice b l.length cap/\Rd W W.heap.size b (u8s l)/\l.length<=cap/\cap<=140737488351232:=by
 obtain ⟨b,cap,l,e,h1⟩:=Qb4 h Tryz.underlying42 Tryz.underlying5 Qp9 Qp4;injection e with e;exact ⟨b,cap,l,e,h1⟩
theorem Mw {n:Nat} {cs:List Value} (h:Opn prog W n 25 cs): ∃x y:Int,cs=[.int .i64 x, .int .i64 y]/\I64 x/\I64 y:=by
 obtain ⟨n,rfl,hl,hf⟩:=B8 h Tryz.underlying25;rw [Qjf] at hl;match cs,hl with
 |[a0,a1],_=>
  obtain ⟨x,rfl,h0⟩:=Q09 (Gk hf 0 _ rfl Q03);obtain ⟨y,rfl,h1⟩:=Q09 (Gk hf 1 _ rfl Q03);exact ⟨x,y,rfl,h0,h1⟩
end
structure RowR where
 r:Kz
 a:Option Addr
 cap:Nat
def rwC (x:RowR):List Value:=[.int .i64 x.r.o, .int .i64 x.r.after, .string x.r.key, .slice x.a x.r.val.length x.cap, .bool x.r.gone, .int .i64 x.r.ttl]
theorem rwC_len (x:RowR):(rwC x).length=6:=rfl
structure RowArg (W:World) (x:RowR):Prop where
 o:I64 x.r.o
 after:I64 x.r.after
 ttl:I64 x.r.ttl
 key:x.r.key.size<=140737488351232
 rd:Rd W W.heap.size x.a (u8s x.r.val)
 le:x.r.val.length<=x.cap
 cap:x.cap<=140737488351232
def RowsIn (w:World) (a:Option Addr) (L:List RowR):Prop:=Rd w w.heap.size a (L.flatMap rwC)/\ ∀x∈L,RowArg w x
theorem RowArg.kp {w w':World} {x:RowR} (h:RowArg w x) (hk:Kp No w w'):RowArg w' x:={h with rd:=Rd.kp h.rd hk}
theorem RowsIn.kp {w w':World} {a:Option Addr} {L:List RowR} (h:RowsIn w a L) (hk:Kp No w w'):RowsIn w' a L:=⟨Rd.kp h.1 hk,λx hx=>(h.2 x hx).kp hk⟩
section
variable {W:World}
theorem ca_row:prog.cellsOf 113=6:=by kernel_rfl
theorem ba_row:prog.bytesOf 113=72:=by kernel_rfl
theorem good_row {n:Nat} {cs:List Value} (h:Opn prog W n 113 cs): ∃x:RowR,cs=rwC x/\RowArg W x:=by
 obtain ⟨n,rfl,hl,hf⟩:=B8 h Tryz.underlying113;rw [ca_row] at hl;match cs,hl with
 |[a0,a1,a2,a3,a4,a5],_=>
  obtain ⟨o,rfl,ho⟩:=Q09 (Gk hf 0 _ rfl Q03);obtain ⟨af,rfl,haf⟩:=Q09 (Gk hf 1 _ rfl Q03);obtain ⟨k,rfl,hk⟩:=Qus (Gk hf 2 _ rfl Qun);obtain ⟨b,cap,l,rfl,h1,h2,h3⟩:=Qk2 (Gk hf 3 _ rfl Qje);obtain ⟨g,rfl⟩:=Qpq (Gk hf 4 _ rfl Qp8);obtain ⟨t,rfl,ht⟩:=Q09 (Gk hf 5 _ rfl Q03);exact ⟨⟨⟨o,af,k,l,g,t⟩,b,cap⟩,rfl,ho,haf,ht,hk,h1,h2,h3⟩
theorem good_rows {n:Nat} {cs:List Value} (h:Opn prog W n 22 cs): ∃(a:Option Addr) (cap:Nat) (L:List RowR),cs=[.slice a L.length cap]/\RowsIn W a L/\L.length<=cap/\cap<=140737488351232:=by
 obtain ⟨n',a,len,cap,rfl,rfl⟩:=Q0a h Tryz.underlying22;obtain ⟨L,rfl,hr,hq,h1,h2⟩:=Q3p h Tryz.underlying22 ca_row (by decide) rwC (RowArg W) rwC_len (λcs hg=>good_row hg);refine ⟨a,cap,L,rfl,⟨hr,hq⟩,h1,?_⟩;rw [ba_row] at h2;omega
theorem row_range {w:World} {a:Option Addr} {L:List RowR} (h:Rd w w.heap.size a (L.flatMap rwC)) {k:Nat} (hk:k<L.length):
  ∃g off,a=some ⟨g,off,none⟩/\g<w.heap.size/\ ∀W,Kp No w W->W.rangeAt g (off+k*6) (rwC L[k]):=by
 obtain ⟨g,off,ha,hc⟩:=Zb (f:=rwC) rwC_len (by decide) h hk;obtain ⟨g',off',ha',hg',_⟩:=h (by rw [Xt rwC 6 rwC_len];omega);rw [ha] at ha';injection ha' with ha';injection ha' with e1 e2;exact ⟨g,off,ha,by rw [e1];exact hg',λW hW j u hu=>hc W hW j u hu⟩
end
def Q6m (x:RowR):Prop:=x.r.key.size<=12000/\x.r.val.length<=12000
def Jev (w:World) (L:List RowR) (e:Ending) (w':World):Prop:= ∃b:Bool,e= .returned (.bool b)/\(b=false->(∀x∈L,Q6m x)/\L.length<=600)/\Kp No w w'
theorem L4 (w:World) (b:Nat) (ra:Option Addr) (rc:Nat) (L:List RowR) (hc:w.heap[b]?=some (.cells #[.int .i64 0, .int .i64 0, .int .u8 0, .int .i64 0, .int .i64 0, .slice ra L.length rc, .slice none 0 0] 28 (0,0))) (h:RowsIn w ra L) (hl:L.length<=140737488351232):
  Calls prog 13 #[.slice (some ⟨b,0,none⟩) 1 1] w (Jev w L):=by
 obtain ⟨n,hn⟩: ∃n,n=L.length:=⟨_,rfl⟩;rw [<-hn] at hc;have HA:=zz h;have HC:=zz hc;have HN:=zz hn;have hnb:n<=140737488351232:=by omega
 clear h hc hn hl;go_enter Tryz.func13,Tryz.ntmps13
 go_wp2_with fail
 rename World=>w0;go_loopw [3,4] (λs i wr=>Hid (Kp No w0 wr)/\((s= .int .i64 0/\i= .int .i64 0)\/ ∃N:Nat,N<=12000/\i= .int .i64 1/\s= .int .i64 (N:Int)/\Hid ((∀x∈L,Q6m x)/\L.length<=600))) (λ_ i _=>1-(intOf i).toNat)
 case atStart=>exact ⟨zz zK, .inl ⟨rfl,rfl⟩⟩
 case round=>
  obtain ⟨M8,h1|⟨N,hN,rfl,rfl,HL⟩⟩:=hrel
  ·obtain ⟨rfl,rfl⟩:=h1;go_wp2_with fail
   go_loopw [3,5] (λs i wx=> ∃j M:Nat,j<=n/\M<=12000/\20*j<=M/\i= .int .i64 (j:Int)/\s= .int .i64 (M:Int)/\Hid (∀x∈L.take j,Q6m x)/\Hid (Kp No w0 wx)) (λ_ i _=>n-(intOf i).toNat)
   case atStart=>exact ⟨0,10,Nat.zero_le _,by decide,by decide,rfl,rfl,zz (by simp),M8⟩
   case round=>
    clear M8;obtain ⟨j,M,hj,hM,Jj3,rfl,rfl,HP,HK⟩:=hrel;have c5:wr.cell? ⟨b,5,none⟩=some (.slice ra n rc):=Q4 (HK.out.get HC.out λx=>x) 5;have hbl:=Q7 (HK.out.get HC.out λx=>x);by_cases hlt:j<n
    ·have Lm:j<L.length:=by have:=HN.out;omega
     obtain ⟨g,off,rfl,l0⟩:=Zb (f:=rwC) rwC_len (by decide) HA.out.1 Lm;have HE:=zz (List.take_succ_eq_append_getElem Lm);have hsz:=HA.out.2 _ (List.getElem_mem Lm);obtain ⟨x,hx⟩: ∃x,x=L[j]:=⟨_,rfl⟩;rw [<-hx] at l0 HE hsz;obtain ⟨⟨o,af,key,val,gone,ttl⟩,va,vc⟩:=x;have t2:wr.cell? ⟨g,off+j*6+2,none⟩=some (.string key):=l0 wr HK.out 2 _ rfl;have t3:wr.cell? ⟨g,off+j*6+3,none⟩=some (.slice va val.length vc):=l0 wr HK.out 3 _ rfl;have z1:key.size<=140737488351232:=hsz.key;have z2:val.length<=140737488351232:=Nat.le_trans hsz.le hsz.cap;obtain ⟨vl,hvl⟩: ∃k,k=val.length:=⟨_,rfl⟩;rw [<-hvl] at t3 z2;have Jei:=zz hvl;clear hx l0 hsz hvl;obtain ⟨M1,hM1⟩: ∃M1,M1=M+20+key.size+vl:=⟨_,rfl⟩;have J0o:(M:Int)+20+key.size+vl=(M1:Int):=by rw [hM1];push_cast;rfl
     have J3x:=zz hM1;clear hM1;go_wp2_with fail
     refine zE [0,0,0,0,0,0,1,0,0,0,1,1,0,0,0,0,0,1,0,0,0,1,1,0,0] [0,1,2,3,4,5,7,13,14,15,16,18,6,8,9,10,11,12,17,19,20,21,22,23,24] ?_;repeat (first|refine zA ?_|refine zB ?_|refine zC ?_)
     refine Qa (λnq=>?_)
     (try rw [J0o])
     clear J0o;have Gf:=zz (HK.out.drewN nq);clear t2 t3 c5;rcases Nat.lt_or_ge 12000 M1 with hh|hh
     ·go_wp2_with fail
      go_ret
      exact ⟨true,rfl,(λh=>by cases h),Gf.out⟩
     ·have hsm:key.size<=12000/\val.length<=12000:=by have:=J3x.out;have:=Jei.out;omega
      have J7p:20*(j+1)<=M1:=by have:=J3x.out;omega
      have HP2:Hid (∀x∈L.take (j+1),Q6m x):=zz λx hx=>by
       rw [HE.out,List.mem_append,List.mem_singleton] at hx;rcases hx with hx|rfl
       ·exact HP.out x hx
       ·exact hsm
      clear hsm;go_wp2_with fail
      go_roundw
      case rel=>exact ⟨j+1,M1,by omega,hh,J7p,by go_num,by go_num,HP2,Gf⟩
      case measure=>simp [intOf];omega
    ·obtain rfl:j=n:=by omega
     clear hlt;have Qty:Hid ((∀x∈L,Q6m x)/\L.length<=600):=zz ⟨λx hx=>HP.out x (by rw [HN.out,List.take_length];exact hx),by rw [<-HN.out];omega⟩;have c6:wr.cell? ⟨b,6,none⟩=some (.slice none 0 0):=Q4 (HK.out.get HC.out λx=>x) 6;go_wp2_with fail
     go_loop [3,6] (λs z=>s= .int .i64 (M:Int)/\z= .int .i64 0) (λ_ _=>0)
     case atStart=>exact ⟨rfl,rfl⟩
     case round=>
      obtain ⟨rfl,rfl⟩:=hrel;go_wp2_with fail
      go_roundw
      case rel=>exact ⟨HK, .inr ⟨M,hM,rfl,rfl,Qty⟩⟩
      case measure=>simp [intOf]
  ·go_wp2_with fail
   go_ret
   exact ⟨false,rfl,λ_=>HL.out,M8.out⟩
theorem Qws (r y:Nat) (P:ByteArray) (o:Nat) (st:Ja) (lv kv:Value):((Ue r y P o st lv kv).toList.drop 8).take 15=Mf st.of:=rfl
def Qd7 (Qi7 w:World) (of:List Z1) (L:List RowR) (e:Ending) (w':World):Prop:=
 ∃(b:Option Addr) (c:Nat) (R:List Qe),e= .returned (.slice b R.length c)/\Own w' 46 9 (.slice b R.length c) R.length (R.flatMap recC)/\R.map Qe.r=Gp of (L.map RowR.r)/\(∀y∈R,y.rd Qi7)/\(∀g,(Value.slice b R.length c).ownBlock=some g->w.heap.size<=g)/\Kp No w w'
structure J69 (Qi7 w:World) (q:Nat) (of:List Z1) (L:List RowR) (j:Nat) (ra:Option Addr) (c:Nat) (R:List Qe) (wr:World):Prop where
 row:Jd 46 9 recC w wr (.slice ra j c) j R
 done:wr.heap[q]?=some (.cells (Mf (Gu of ((L.take j).map RowR.r))).toArray 62 (0,0))
 rd: ∀y∈R,y.rd Qi7
 eq:R.map Qe.r=Gp of ((L.take j).map RowR.r)
theorem Qh3 {w:World} {x r y o:Nat} {P:ByteArray} {st:Ja} {la ka:Option Addr} {lc kc:Nat} {cs:Zn} {K:List Qe} (h:Vo w x r y P o st la lc cs ka kc K) (hof:Q2l 0 st.of) (a:Option Addr) (cap:Nat) (L:List RowR) {Qi7:World} (hL0:RowsIn Qi7 a L) (hk0:Kp No Qi7 w) (hn:L.length<=1000):
  Calls prog 16 #[.pointer (some ⟨x,0,none⟩), .slice a L.length cap] w (Qd7 Qi7 w st.of L):=by
 have hL:=hL0.kp hk0;obtain ⟨n,Xw⟩: ∃n,n=L.length:=⟨_,rfl⟩;have hnn:n<=1000:=by omega
 have hxl:=Q7 h.cell
 have RX:=zz (show w.rangeAt x 8 (Mf st.of) from by
  have:=Qg h.cell 8 15;rwa [Qws] at this)
 obtain ⟨w1,hw1⟩: ∃W,W=w.alloc (.cells (Mf st.of).toArray 62):=⟨_,rfl⟩;have k1:Kp No w w1:=by rw [hw1];exact zK.alloc _
 obtain ⟨q,hq⟩: ∃q,q=w.heap.size:=⟨_,rfl⟩;have b1:w1.heap[q]?=some (.cells (Mf st.of).toArray 62 (0,0)):=by rw [hw1,hq];exact heap_alloc_new w _
 have HI0:=zz (show J69 Qi7 w q st.of L 0 none 0 [] w1 from ⟨(Jd.nil 46 9 recC w).keep k1,b1,λy hy=>absurd hy List.not_mem_nil,rfl⟩);have HL:=zz hL;have Jdx:=zz hL0;have Qz2:=zz hof;have HN:=zz Xw;have HQ:=zz hq;have HW1:=zz hw1;rw [<-Xw];clear h hof hL hL0 hk0 hn Xw hq hw1 k1 b1;go_enter Tryz.func16,Tryz.ntmps16
 go_upto_region 3 with (first
  |(refine Qj rfl 62 _ rfl x 8 rfl _ _ RX Tryz.underlying62 rfl (by kernel_rfl) ?_)
  |(refine Qy rfl 62 _ _ rfl w.heap.size (by rfl) _ _ _ rfl rfl (by kernel_rfl) (by rfl) (by rfl) ?_))
 rw [<-HW1.out,<-HQ.out];go_wp2_with fail
 go_loopw [5,7] (λv i wr=> ∃(j c:Nat) (ra:Option Addr) (R:List Qe),j<=n/\i= .int .i64 (j:Int)/\v= .slice ra j c/\Hid (J69 Qi7 w q st.of L j ra c R wr)) (λ_ i _=>n-(intOf i).toNat)
 case atStart=>exact ⟨0,0,none,[],Nat.zero_le _,rfl,rfl,HI0⟩
 case round=>
  clear HI0;obtain ⟨j,c,ra,R,hj,rfl,rfl,HI⟩:=hrel;rcases Nat.lt_or_ge j n with hlt|hge
  ·have Lm:j<L.length:=by have:=HN.out;omega
   obtain ⟨g,off,rfl,hgl,hgr⟩:=row_range HL.out.1 Lm;have hkr:=HI.out.row.2.2.2;have hxa:=Jdx.out.2 _ (List.getElem_mem Lm);have hst:(L.take (j+1)).map RowR.r=(L.take j).map RowR.r++[L[j].r]:=by rw [List.take_succ_eq_append_getElem Lm,List.map_append];rfl
   have Qfx:Q2l (0+j) (Gu st.of ((L.take j).map RowR.r)):=by
    have:=Qz2.out.upto ((L.take j).map RowR.r);rwa [List.length_map,List.length_take,Nat.min_eq_left (by omega)] at this
   obtain ⟨OF,Qkb⟩: ∃OF,OF=Gu st.of ((L.take j).map RowR.r):=⟨_,rfl⟩;have hsn:=Q0w ((L.take j).map RowR.r) st.of L[j].r;rw [<-hst,<-Qkb] at hsn;rw [<-Qkb] at Qfx;have hdn:=HI.out.done;rw [<-Qkb] at hdn;obtain ⟨xx,hx⟩: ∃x,x=L[j]:=⟨_,rfl⟩;rw [<-hx] at hgr hxa hsn;obtain ⟨⟨ro,af,key,val,gone,ttl⟩,va,vc⟩:=xx;obtain ⟨v10,J8j,J7d⟩:=Qm4 ro;obtain ⟨A,hA,Jgd⟩:=Q3n af;obtain ⟨oN,Q3f⟩: ∃oN,oN=v10 % 5:=⟨_,rfl⟩;have A8:oN<5:=by omega
   have Qsr:Km ⟨ro,af,key,val,gone,ttl⟩=oN:=by unfold Km;rw [J7d,Q3f];rfl
   have J78:Qgr ⟨ro,af,key,val,gone,ttl⟩=(A:Int):=Jgd;have Jh1:Int.tmod (v10:Int) 5=(oN:Int):=by rw [Q3f];exact (Int.ofNat_tmod v10 5).symm
   obtain ⟨s0,hs0⟩: ∃z,z=(Qn OF oN).seq:=⟨_,rfl⟩;obtain ⟨m0,hm0⟩: ∃z,z=(Qn OF oN).m:=⟨_,rfl⟩;obtain ⟨c0,hc0⟩: ∃z,z=(Qn OF oN).c:=⟨_,rfl⟩;have bs:=Qfx.seq oN;have bm:=Qfx.m oN;have bc:=Qfx.c oN;rw [<-hs0] at bs;rw [<-hm0] at bm;rw [<-hc0] at bc;obtain ⟨m1,hm1⟩: ∃z,z=m0+(A:Int):=⟨_,rfl⟩;obtain ⟨c1,hc1⟩: ∃z:Int,z=if (A:Int)=0 then c0+1 else (oN:Int):=⟨_,rfl⟩
   have hNM:Md OF ⟨ro,af,key,val,gone,ttl⟩=m1:=by unfold Md;rw [Qsr,J78,<-hm0,hm1]
   have Jbp:Be OF ⟨ro,af,key,val,gone,ttl⟩=c1:=by unfold Be;rw [Qsr,J78,<-hc0,hc1]
   obtain ⟨yv,ya,yc,hyv,Qt9,hyg⟩: ∃(yv:Qo) (ya:Option Addr) (yc:Nat),yv=N4 ⟨ro,af,key,val,gone,ttl⟩ m1 c1/\Qm.rd ⟨yv,ya,yc⟩ Qi7/\((gone=true/\Qv ⟨yv,ya,yc⟩=[.int .i64 m1, .int .i64 c1, .int .i64 (oN:Int), .slice none 0 0, .bool true, .int .i64 0])\/(gone=false/\Qv ⟨yv,ya,yc⟩=[.int .i64 m1, .int .i64 c1, .int .i64 (oN:Int), .slice va val.length vc, .bool false, .int .i64 ttl])):=by
    cases gone with
    |true=>exact ⟨_,none,0,rfl,⟨by unfold N4;exact Rd.nil _ _ _,Nat.le_refl _,Nat.zero_le _⟩, .inl ⟨rfl,by unfold Qv Qm.sl N4;rw [<-Qsr];rfl⟩⟩
    |false=>exact ⟨_,va,vc,rfl,⟨by unfold N4;exact hxa.rd,by unfold N4;exact hxa.le,by simp only [maxLen];have:vc<=140737488351232:=hxa.cap;omega⟩, .inr ⟨rfl,by unfold Qv Qm.sl N4;rw [<-Qsr];rfl⟩⟩
   have hns:Xi OF ⟨ro,af,key,val,gone,ttl⟩=⟨(oN:Int),s0+1,key,yv⟩:=by unfold Xi;rw [hNM,Jbp,<-hyv,Qsr,<-hs0]
   have hyo:yv.m=m1/\yv.c=c1/\yv.o=(oN:Int):=by rw [hyv,<-Qsr];exact Q0x _ _ _
   obtain ⟨vl,hvl⟩: ∃k,k=val.length:=⟨_,rfl⟩;rw [<-hvl] at hyg;have R1:=zz (show wr.rangeAt g (off+j*6) [.int .i64 ro, .int .i64 af, .string key, .slice va vl vc, .bool gone, .int .i64 ttl] from by rw [hvl];exact hgr wr hkr);have hg3:=hkr.lt hgl;obtain ⟨w5,hw5⟩: ∃W,W=wr.alloc (.cells #[.int .i64 ro, .int .i64 af, .string key, .slice va vl vc, .bool gone, .int .i64 ttl] 113):=⟨_,rfl⟩;have k5:Kp No wr w5:=by rw [hw5];exact zK.alloc _
   have b5:w5.heap[wr.heap.size]?=some (.cells #[.int .i64 ro, .int .i64 af, .string key, .slice va vl vc, .bool gone, .int .i64 ttl] 113 (0,0)):=by rw [hw5];exact heap_alloc_new wr _
   obtain ⟨p,hp⟩: ∃p,p=wr.heap.size:=⟨_,rfl⟩;rw [<-hp] at b5;have Jb1:=k5.get hdn λx=>x;have Jfb:w5.cell? ⟨p,0,none⟩=some (.int .i64 ro):=Q4 b5 0;have Qq7:=Q7 b5;have Q2w:=zz hw5;have H5:=zz (And.intro (hkr.Q0 k5) (And.intro b5 Jb1));have HP:=zz hp;have Dd:=zz (show w.heap.size<=p from by rw [hp];exact hkr.size);have HV:=zz (And.intro hsn (And.intro hns (And.intro hyo Qt9)));have J65:=zz hyg;have Qyd:=zz (And.intro Qfx (And.intro hs0 (And.intro hm0 (And.intro hc0 (And.intro Qsr Qkb)))));have Oy:=zz hc1;have J3x:=zz hm1;have Jij:s0<=2000000000000:=by omega
   have Jf6:m0<=300000000000000:=by omega
   have bc1:c0<=70000:=by omega
   have Jik:=bs.1;have Jf7:=bm.1;have bc2:=bc.1;clear hgr hxa hst Qfx Qkb hsn hdn hx Q3f Qsr J78 hs0 hm0 hc0 bs bm bc hm1 hc1 hNM Jbp hyv Qt9 hyg hns hyo hvl hw5 k5 b5 hp Jb1 hkr hgl Lm J8j
   go_upto_region 7 with (first
    |(refine Qj rfl 113 _ rfl g (off+j*6) rfl _ _ R1 Tryz.underlying113 rfl (by kernel_rfl) ?_)
    |(refine Qy rfl 113 _ _ rfl wr.heap.size (by rfl) _ _ _ rfl rfl (by kernel_rfl) (by rfl) (by rfl) ?_))
   rw [<-Q2w.out,<-HP.out];go_upto_region 8 with fail
   have g3:=U9 OF A8;rw [<-Qyd.out.2.1,<-Qyd.out.2.2.1,<-Qyd.out.2.2.2.1] at g3
   have fm: ∀W,Kp No w5 W->W.cell? ⟨q,oN*3+1,none⟩=some (.int .i64 m0):=λW hW=>by
    rw [Q4 (hW.get H5.out.2.2 λx=>x)];simpa using g3.2.1
   have fc: ∀W,Kp No w5 W->W.cell? ⟨q,oN*3+2,none⟩=some (.int .i64 c0):=λW hW=>by
    rw [Q4 (hW.get H5.out.2.2 λx=>x)];simpa using g3.2.2
   have fa: ∀W,Kp No w5 W->W.cell? ⟨p,1,none⟩=some (.int .i64 af):=λW hW=>Q4 (hW.get H5.out.2.1 λx=>x) 1;have hii:((oN:Nat):Int)<5:=Int.ofNat_lt.2 A8;have hq5:=Q7 H5.out.2.2;have G3:=zz g3;clear g3 Jfb;refine zD No [0,0,0,0,0,0,0,0,0,0,0,0,0,0,0,2,2] [0,1,2,3,4,5,6,7,8,9,10,11,12,13,14,15,16] ?_;repeat (first|refine zA ?_|refine zB ?_|refine zC ?_)
   refine Q8 rfl rfl (λn1=>?_);go_wp2_with fail
   obtain ⟨sb,hsb⟩: ∃b,b=w5.heap.size:=⟨_,rfl⟩;obtain ⟨w6,hw6⟩: ∃W,W=(w5.drewN n1).alloc (.cells #[.int .i64 0, .int .i64 0] 25):=⟨_,rfl⟩;have k6:Kp No w5 w6:=by rw [hw6];exact ((Kp.refl No w5).drewN n1).alloc _
   have b6:w6.heap[sb]?=some (.cells #[.int .i64 0, .int .i64 0] 25 (0,0)):=by
    rw [hw6,hsb];exact heap_alloc_new (w5.drewN n1) _
   rw [<-hw6,<-hsb];refine ⟨k6,?_⟩;have Qzg:=zz hsb;have H6:=zz (And.intro k6 b6);clear hw6 hsb k6 b6;repeat (first|refine zA ?_|refine zB ?_|refine zC ?_)
   refine Q8 rfl rfl (λn2=>?_);obtain ⟨w7,hw7⟩: ∃W,W=w6.drewN n2:=⟨_,rfl⟩;have k7:Kp No w6 w7:=by rw [hw7];exact (Kp.refl No w6).drewN n2
   have b7:=k7.get H6.out.2 λx=>x;have y0:w7.cell? ⟨sb,0,none⟩=some (.int .i64 0):=Q4 b7 0;have y1:w7.cell? ⟨sb,1,none⟩=some (.int .i64 0):=Q4 b7 1;have f0:=Qh b7 0;have f1:=Qh b7 1;have l7:=Q7 b7;have H7:=zz (And.intro (H6.out.1.Q0 k7) b7);rw [<-hw7];clear hw7 k7 b7;go_wp2_with fail
   obtain ⟨w8,hw8⟩: ∃W,W=(w7.setCell ⟨sb,0,none⟩ (.int .i64 (m0+(A:Int)))).setCell ⟨sb,1,none⟩ (.int .i64 c0):=⟨_,rfl⟩
   have k8:Kp No w5 w8:=by
    rw [hw8];exact (H7.out.1.setCell (p:=⟨sb,0,none⟩) (.inr (Nat.le_of_eq Qzg.out.symm)) _).setCell (p:=⟨sb,1,none⟩) (.inr (Nat.le_of_eq Qzg.out.symm)) _
   have b8:w8.heap[sb]?=some (.cells #[.int .i64 m1, .int .i64 c0] 25 (0,0)):=by
    rw [hw8,Ql (Ql H7.out.2 0 _) 1 _,J3x.out];rfl
   rw [<-hw8];refine ⟨k8,?_⟩;have H8:=zz (And.intro k8 b8);clear hw8 k8 b8 y0 y1 f0 f1 l7 fm fc fa;refine Qa (λnq=>?_);obtain ⟨w9,Mc⟩: ∃W,W=w8.drewN nq:=⟨_,rfl⟩;have k9:Kp No w5 w9:=by rw [Mc];exact H8.out.1.drewN nq
   have b9:w9.heap[sb]?=some (.cells #[.int .i64 m1, .int .i64 c0] 25 (0,0)):=by rw [Mc];exact H8.out.2
   have p9:=k9.get H5.out.2.1 λx=>x;have c91:w9.cell? ⟨p,1,none⟩=some (.int .i64 af):=Q4 p9 1;have Ji3:w9.cell? ⟨sb,1,none⟩=some (.int .i64 c0):=Q4 b9 1;have Ji5:=Qh b9 1;have sl9:=Q7 b9;have Jhw:=Q7 p9;have H9:=zz (And.intro k9 b9);rw [<-Mc];clear Mc k9 b9 p9;go_upto_if 48 with fail
   go_cut [10] from 22 to 89 (λs10 wx=>s10= .pointer (some ⟨sb,0,none⟩)/\Hid (Kp (Mer.One sb) w9 wx/\wx.heap[sb]?=some (.cells #[.int .i64 m1, .int .i64 c1] 25 (0,0))))
   case first=>
    by_cases hz:(A:Int)=0
    ·have Qx6:=zz (show c1=c0+1 by rw [Oy.out,if_pos hz]);have hz1:((A:Int)==0)=true:=by rw [beq_iff_eq];exact hz
     have hz2:(A==0)=true:=by rw [beq_iff_eq];omega
     clear hz;go_wp2_with fail
     go_meet
     case rel=>
      refine ⟨rfl,zz ⟨(Kp.refl (Mer.One sb) w9).setCell (p:=⟨sb,1,none⟩) (.inl (show Mer.One sb sb from rfl)) _,?_⟩⟩;rw [Ql H9.out.2 1 _,Qx6.out];rfl
    ·have Qx6:=zz (show c1=(oN:Int) by rw [Oy.out,if_neg hz]);have hz1:((A:Int)==0)=false:=by rw [beq_eq_false_iff_ne];exact hz
     have hz2:(A==0)=false:=by rw [beq_eq_false_iff_ne];omega
     have hz3: ¬A=0:=by omega
     go_wp2_with fail
     go_meet
     case rel=>
      refine ⟨rfl,zz ⟨(Kp.refl (Mer.One sb) w9).setCell (p:=⟨sb,1,none⟩) (.inl (show Mer.One sb sb from rfl)) _,?_⟩⟩;rw [Ql H9.out.2 1 _,Qx6.out];rfl
   case rest=>
   obtain ⟨rfl,Qzo⟩:=hcut;rename World=>w10
   have k10:Kp No w5 w10:=H9.out.1.trans Qzo.out.1 λi hi e=>by
    have h1:=Qzg.out;have e:i=sb:=e;omega
   have J2c:q≠sb:=by have:=Qzg.out;omega
   have J29:p≠sb:=by have:=Qzg.out;omega
   have b10:=Qzo.out.2;have q10:=k10.get H5.out.2.2 λx=>x;have p10:=k10.get H5.out.2.1 λx=>x;have Qx4:=zz (And.intro k10 (And.intro b10 (And.intro q10 p10)));obtain ⟨s1,hs1⟩: ∃z,z=s0+1:=⟨_,rfl⟩;have g10:w10.cell? ⟨q,oN*3,none⟩=some (.int .i64 s0):=by rw [Q4 q10];simpa using G3.out.1
   have J6r:=Qh q10 (oN*3);have J9g:=Q7 q10;have Aq:=zz hs1;have Qoq:=zz (And.intro J2c J29);clear k10 b10 q10 p10 J2c J29 c91 Ji3 Ji5 sl9 Jhw hs1;go_upto_region 13 with fail
   obtain ⟨Hl,L6⟩: ∃W,W=w10.setCell ⟨q,oN*3,none⟩ (.int .i64 (s0+1)):=⟨_,rfl⟩;have k11:Kp (Mer.One q) w10 Hl:=by rw [L6];exact (Kp.refl (Mer.One q) w10).setCell (p:=⟨q,oN*3,none⟩) (.inl (show Mer.One q q from rfl)) _
   have q11:=Ql Qx4.out.2.2.1 (oN*3) (.int .i64 (s0+1));have b11:=k11.get Qx4.out.2.1 λe=>Qoq.out.1 (show sb=q from e).symm;rw [<-L6] at q11⊢;have z0:Hl.cell? ⟨sb,0,none⟩=some (.int .i64 m1):=Q4 b11 0;have z1:Hl.cell? ⟨sb,1,none⟩=some (.int .i64 c1):=Q4 b11 1;have zl:=Q7 b11
   have g11:Hl.cell? ⟨q,oN*3+1,none⟩=some (.int .i64 m0):=by
    rw [Q4 q11];have:=G3.out.2.1;simpa [List.getElem?_set] using this
   have g12:Hl.cell? ⟨q,oN*3+2,none⟩=some (.int .i64 c0):=by
    rw [Q4 q11];have:=G3.out.2.2;simpa [List.getElem?_set] using this
   have f11:=Qh q11 (oN*3+1);have f12:=Qh q11 (oN*3+2);have Qqo:=Q7 q11;have J9v:=zz (And.intro k11 (And.intro q11 b11));clear L6 k11 q11 b11 g10 J6r J9g;go_upto_region 14 with fail
   obtain ⟨w12,Q50⟩: ∃W,W=(Hl.setCell ⟨q,oN*3+1,none⟩ (.int .i64 m1)).setCell ⟨q,oN*3+2,none⟩ (.int .i64 c1):=⟨_,rfl⟩
   have k12:Kp (Mer.One q) w10 w12:=by
    rw [Q50];exact (J9v.out.1.setCell (p:=⟨q,oN*3+1,none⟩) (.inl (show Mer.One q q from rfl)) _).setCell (p:=⟨q,oN*3+2,none⟩) (.inl (show Mer.One q q from rfl)) _
   have q12:=Ql (Ql J9v.out.2.1 (oN*3+1) (.int .i64 m1)) (oN*3+2) (.int .i64 c1);rw [<-Q50] at q12⊢
   have hdone:w12.heap[q]?=some (.cells (Mf (OF.set oN ⟨s1,m1,c1⟩)).toArray 62 (0,0)):=by
    rw [q12,<-Q5e OF Qyd.out.1.five A8 ⟨s1,m1,c1⟩,Aq.out];simp
   have Qz8:=zz k12;have b12:=k12.get Qx4.out.2.1 λe=>Qoq.out.1 (show sb=q from e).symm;have hpq:p≠q:=Qd H5.out.2.1 H5.out.2.2 (by decide);have p12:=k12.get Qx4.out.2.2.2 λe=>hpq (show p=q from e);have x0:w12.cell? ⟨sb,0,none⟩=some (.int .i64 m1):=Q4 b12 0;have x1:w12.cell? ⟨sb,1,none⟩=some (.int .i64 c1):=Q4 b12 1;have xl:=Q7 b12;have x3:w12.cell? ⟨p,3,none⟩=some (.slice va vl vc):=Q4 p12 3;have x4:w12.cell? ⟨p,4,none⟩=some (.bool gone):=Q4 p12 4;have x5:w12.cell? ⟨p,5,none⟩=some (.int .i64 ttl):=Q4 p12 5;have xp:=Q7 p12
   have Qry:=zz (And.intro ((H5.out.1.Q0 Qx4.out.1).trans k12 λi hi e=>by
    have h1:=HQ.out;have e:i=q:=e;omega) (And.intro hdone (And.intro b12 p12)))
   obtain ⟨Qhb,Qqd⟩: ∃W,W=w12.alloc (.cells #[.int .i64 m1, .int .i64 c1, .int .i64 (oN:Int), .slice va vl vc, .bool false, .int .i64 ttl] 44):=⟨_,rfl⟩;obtain ⟨vb,hvb⟩: ∃b,b=w12.heap.size:=⟨_,rfl⟩;have k13:Kp No w12 Qhb:=by rw [Qqd];exact zK.alloc _
   have b13:Qhb.heap[vb]?=some (.cells #[.int .i64 m1, .int .i64 c1, .int .i64 (oN:Int), .slice va vl vc, .bool false, .int .i64 ttl] 44 (0,0)):=by rw [Qqd,hvb];exact heap_alloc_new w12 _
   have J61:=zz Qqd;have Qzn:=zz hvb;have Q60:=zz (And.intro k13 b13);clear Q50 k12 q12 hdone b12 p12 hpq g11 g12 f11 f12 Qqo z0 z1 zl Qqd hvb k13 b13;go_upto_region 15 with (refine Qy rfl 44 _ _ rfl w12.heap.size (by rfl) _ _ _ rfl rfl (by kernel_rfl) (by rfl) (by rfl) ?_)
   rw [<-J61.out,<-Qzn.out];clear x0 x1 xl x3 x4 x5 xp;have p13:=Q60.out.1.get Qry.out.2.2.2 λx=>x;have s13:=Q60.out.1.get Qry.out.2.2.1 λx=>x;have x4:Qhb.cell? ⟨p,4,none⟩=some (.bool gone):=Q4 p13 4;have xp:=Q7 p13;have x0:Qhb.cell? ⟨sb,0,none⟩=some (.int .i64 m1):=Q4 s13 0;have x1:Qhb.cell? ⟨sb,1,none⟩=some (.int .i64 c1):=Q4 s13 1;have xl:=Q7 s13;clear p13 s13;go_upto_if 74 with fail
   go_cut [11] from 22 to 89 (λs11 wx=>s11= .pointer (some ⟨vb,0,none⟩)/\Hid (Kp (Mer.One vb) Qhb wx/\wx.heap[vb]?=some (.cells (Qv ⟨yv,ya,yc⟩).toArray 44 (0,0))))
   case first=>
    rcases J65.out with ⟨hg,hv⟩|⟨hg,hv⟩
    ·have HVV:=zz hv;subst hg;have u0:Qhb.cell? ⟨vb,0,none⟩=some (.int .i64 m1):=Q4 Q60.out.2 0;have u1:Qhb.cell? ⟨vb,1,none⟩=some (.int .i64 c1):=Q4 Q60.out.2 1;have u2:Qhb.cell? ⟨vb,2,none⟩=some (.int .i64 (oN:Int)):=Q4 Q60.out.2 2;have u3:Qhb.cell? ⟨vb,3,none⟩=some (.slice va vl vc):=Q4 Q60.out.2 3;have u4:Qhb.cell? ⟨vb,4,none⟩=some (.bool false):=Q4 Q60.out.2 4;have u5:Qhb.cell? ⟨vb,5,none⟩=some (.int .i64 ttl):=Q4 Q60.out.2 5;have v0:=Qh Q60.out.2 0;have v1:=Qh Q60.out.2 1;have v2:=Qh Q60.out.2 2;have v3:=Qh Q60.out.2 3;have v4:=Qh Q60.out.2 4;have v5:=Qh Q60.out.2 5;have Ji6:=Q7 Q60.out.2;clear hv;go_wp2_with fail
     go_meet
     case rel=>
      refine ⟨rfl,zz ⟨?_,?_⟩⟩
      ·exact ((((((Kp.refl (Mer.One vb) Qhb).setCell (p:=⟨vb,0,none⟩) (.inl (show Mer.One vb vb from rfl)) _).setCell (p:=⟨vb,1,none⟩) (.inl (show Mer.One vb vb from rfl)) _).setCell (p:=⟨vb,2,none⟩) (.inl (show Mer.One vb vb from rfl)) _).setCell (p:=⟨vb,3,none⟩) (.inl (show Mer.One vb vb from rfl)) _).setCell (p:=⟨vb,4,none⟩) (.inl (show Mer.One vb vb from rfl)) _).setCell (p:=⟨vb,5,none⟩) (.inl (show Mer.One vb vb from rfl)) _
      ·rw [Ql (Ql (Ql (Ql (Ql (Ql Q60.out.2 0 _) 1 _) 2 _) 3 _) 4 _) 5 _,HVV.out];rfl
    ·have HVV:=zz hv;subst hg;clear hv;go_wp2_with fail
     go_meet
     case rel=>exact ⟨rfl,zz ⟨Kp.refl _ _,by rw [HVV.out];exact Q60.out.2⟩⟩
   case rest=>
   obtain ⟨rfl,Qzp⟩:=hcut;rename World=>E1
   have hvq:vb≠q:=by
    have h1:=Qzn.out;have h2:=Q7 Qry.out.2.1;omega
   have hvp:vb≠p:=by
    have h1:=Qzn.out;have h2:=Q7 Qry.out.2.2.2;omega
   have k14:Kp (Mer.One vb) w12 E1:=(Kp.Qx Q60.out.1).Q0 Qzp.out.1
   have Qwf:Kp No w E1:=Qry.out.1.trans k14 λi hi e=>by
    have h1:=Qzn.out;have h2:=Qry.out.1.size;have e:i=vb:=e;omega
   have J37:=k14.get Qry.out.2.1 λe=>hvq (show q=vb from e).symm;have Qwm:=k14.get Qry.out.2.2.2 λe=>hvp (show p=vb from e).symm;have b14:=Qzp.out.2;have Jca:wr.heap[q]?=some (.cells (Mf (Gu st.of ((L.take j).map RowR.r))).toArray 62 (0,0)):=HI.out.done
   have Jcq:Kp (λi=>i=q\/wr.heap.size<=i) wr E1:=by
    have a1:Kp (λi=>i=q\/wr.heap.size<=i) wr w5:=by rw [Q2w.out];exact zK.alloc _
    have a2:=a1.Q0 (Kp.Qx Qx4.out.1);refine (a2.trans (T:=Mer.One q) (Qz8.out) λi hi e=> .inl e).trans k14 λi hi e=>?_;have e:i=vb:=e;have h1:=Qzn.out;have h2:=a2.size;exact .inr (by have:=Qz8.out.size;omega)
   have Qbq:Own E1 46 9 (.slice ra j c) j (R.flatMap recC):=HI.out.row.2.1.keep Jcq λgg hgg hh=>by
    obtain ⟨cur,J5⟩:=HI.out.row.2.1.type gg hgg;rcases hh with hh|hh
    ·exact Qd J5 Jca (by decide) hh
    ·have:=Q7 J5;omega
   have Qla:Jd 46 9 recC w E1 (.slice ra j c) j R:=⟨HI.out.row.1,Qbq,HI.out.row.2.2.1,Qwf⟩
   have hnt: ∀gg,(Value.slice ra j c).ownBlock=some gg->gg≠q/\gg≠p/\gg≠vb:=λgg hgg=>by
    obtain ⟨cur,J5⟩:=Qbq.type gg hgg;exact ⟨Qd J5 J37 (by decide),Qd J5 Qwm (by decide),Qd J5 b14 (by decide)⟩
   have fq: ∀W,Kp (λk=>(Value.slice ra j c).ownBlock=some k) E1 W->W.cell? ⟨q,oN*3,none⟩=some (.int .i64 s1):=λW hW=>by
    rw [Q4 (hW.get J37 λe=>(hnt q e).1 rfl)];have:=(U9 (OF.set oN ⟨s1,m1,c1⟩) A8).1;rw [Fm (by rw [Qyd.out.1.five];exact A8),if_pos rfl] at this;simpa using this
   have fk: ∀W,Kp (λk=>(Value.slice ra j c).ownBlock=some k) E1 W->W.cell? ⟨p,2,none⟩=some (.string key):=λW hW=>Q4 (hW.get Qwm λe=>(hnt p e).2.1 rfl) 2
   have RV:=zz (show ∀W,Kp (λk=>(Value.slice ra j c).ownBlock=some k) E1 W->W.rangeAt vb 0 [.int .i64 yv.m, .int .i64 yv.c, .int .i64 yv.o, .slice ya yv.val.length yc, .bool yv.gone, .int .i64 yv.ttl] from λW hW=>by
    have:=Qg (hW.get b14 λe=>(hnt vb e).2.2 rfl) 0 6;exact this)
   have J52:=zz (And.intro Qla (And.intro J37 (And.intro hnt Qwf)));have Jgz:=Q7 J37;have Jgw:=Q7 Qwm;clear hvq hvp k14 Qwf J37 Qwm b14 Jca Jcq Qbq Qla hnt x0 x1 xl x4 xp hq5 Qq7;go_upto_region 17 with fail
   refine Xb (Kp (λk=>(Value.slice ra j c).ownBlock=some k) E1) [0,0,0,0,0,0,0,0,0,0,2,2,0] [0,1,2,3,4,5,6,7,8,9,10,11,12] (by kernel_rfl) (by kernel_rfl) (λ_ n h=>h.drewN n) zK ?_;repeat (first|refine zA ?_|refine zB ?_|refine zC ?_)
   apply Qb rfl rfl rfl
   ·intro W hW;exact Qc 44 _ rfl vb 0 rfl [.int .i64 yv.m, .int .i64 yv.c, .int .i64 yv.o, .slice ya yv.val.length yc, .bool yv.gone, .int .i64 yv.ttl] _ (RV.out W hW) Tryz.underlying44 rfl (by kernel_rfl)
   ·(focus (go_simp;rfl))
   repeat (first|refine zA ?_|refine zB ?_|refine zC ?_)
   refine Q8 rfl rfl (λn3=>?_);go_wp2_with fail
   obtain ⟨nb,hnb⟩: ∃b,b=E1.heap.size:=⟨_,rfl⟩;obtain ⟨Qeo,Cb⟩: ∃W,W=(E1.drewN n3).alloc (.cells #[.int .i64 (oN:Int), .int .i64 s1, .string key, .int .i64 yv.m, .int .i64 yv.c, .int .i64 yv.o, .slice ya yv.val.length yc, .bool yv.gone, .int .i64 yv.ttl] 46):=⟨_,rfl⟩;have k15:Kp No E1 Qeo:=by rw [Cb];exact ((Kp.refl No E1).drewN n3).alloc _
   have b15:Qeo.heap[nb]?=some (.cells #[.int .i64 (oN:Int), .int .i64 s1, .string key, .int .i64 yv.m, .int .i64 yv.c, .int .i64 yv.o, .slice ya yv.val.length yc, .bool yv.gone, .int .i64 yv.ttl] 46 (0,0)):=by
    rw [Cb,hnb];exact heap_alloc_new (E1.drewN n3) _
   rw [<-Cb,<-hnb];refine ⟨Kp.Qx k15,?_⟩;have J9w:=zz (And.intro k15 b15);clear Cb hnb k15 b15;repeat (first|refine zA ?_|refine zB ?_|refine zC ?_)
   refine Q8 rfl rfl (λn4=>?_);obtain ⟨w16,hw16⟩: ∃W,W=Qeo.drewN n4:=⟨_,rfl⟩;have k16:Kp No E1 w16:=by rw [hw16];exact J9w.out.1.drewN n4
   have b16:w16.heap[nb]?=some (.cells #[.int .i64 (oN:Int), .int .i64 s1, .string key, .int .i64 yv.m, .int .i64 yv.c, .int .i64 yv.o, .slice ya yv.val.length yc, .bool yv.gone, .int .i64 yv.ttl] 46 (0,0)):=by rw [hw16];exact J9w.out.2
   obtain ⟨a',c',W',hrun,hrel,hkp⟩:=Jd.app (P:=prog) (T:=26) Tryz.underlying26 Ob G5 (J52.out.1.keep k16) [(⟨⟨(oN:Int),s1,key,yv⟩,ya,yc⟩:Qe)] (Of (f:=recC) Ua (x:=⟨⟨(oN:Int),s1,key,yv⟩,ya,yc⟩) b16 rfl) rfl (by unfold maxLen;omega) (by omega);have HX:=zz hrun;have Qy7:=zz (And.intro hrel (And.intro k16 hkp));rw [<-hw16];clear hw16 k16 b16 hrun hrel hkp fq fk RV;refine wpList_append_run rfl rfl rfl rfl HX.out (wpList_nil ⟨rfl,?_⟩);refine ⟨(Kp.Qx Qy7.out.2.1).Q0 Qy7.out.2.2,?_⟩;repeat (first|refine zA ?_|refine zB ?_|refine zC ?_)
   refine Qa (λnq=>?_);obtain ⟨Q67,Cc⟩: ∃W,W=W'.drewN nq:=⟨_,rfl⟩;have k18:Kp No W' Q67:=by rw [Cc];exact (Kp.refl No W').drewN nq
   have Jcy:=k18.get (Qy7.out.2.2.get (Qy7.out.2.1.get J52.out.2.1 λx=>x) λe=>(J52.out.2.2.1 q e).1 rfl) λx=>x
   have HI2:=zz (show J69 Qi7 w q st.of L (j+1) a' c' (R++[(⟨⟨(oN:Int),s1,key,yv⟩,ya,yc⟩:Qe)]) Q67 from by
    obtain ⟨⟨e1,e2⟩,hns,hyo,Qt9⟩:=HV.out;rw [hns] at e1 e2;refine ⟨Qy7.out.1.keep k18,?_,λz hz=>?_,?_⟩
    ·rw [Jcy,e2];unfold Z2;simp only [Int.toNat_natCast];rw [Aq.out,hyo.1,hyo.2.1]
    ·rcases List.mem_append.1 hz with hz|hz
     ·exact HI.out.rd z hz
     ·rw [List.mem_singleton] at hz;rw [hz];exact Qt9
    ·rw [List.map_append,HI.out.eq,e1,Aq.out];rfl)
   rw [<-Cc];clear Cc k18 Jcy HI;go_wp2_with fail
   go_roundw
   case rel=>exact ⟨j+1,c',a',_,hlt,by go_num,rfl,HI2⟩
   case measure=>simp [intOf];omega
  ·obtain rfl:j=n:=by omega
   have HE:=zz (show Qd7 Qi7 w st.of L (.returned (.slice ra j c)) wr from by
    have hlen:=HI.out.row.1;have heq:=HI.out.eq;rw [HN.out,List.take_length] at heq;have ho:=HI.out.row.2.1;have hnw:=HI.out.row.2.2.1;rw [hlen] at ho hnw⊢;exact ⟨ra,c,R,rfl,ho,heq,HI.out.rd,hnw,HI.out.row.2.2.2⟩)
   clear hge;go_wp2_with fail
   go_ret
   exact HE.out
open Go.ChangeShapes Go.WideShapes Go.ChangeAt
theorem Tryz.own:ownKnob prog.godebug=none:=by kernel_rfl
theorem Tryz.laidOut:laidOutB prog=true:=by kernel_rfl
def Qzz (x:Int):Prop:= -9223372036854775808<=x/\x<=9223372036854775807
section
variable {H:Type} {enc:TypeId×Value->H} {W:World} {ts:List TypeId} {ds:List (DataW H)}
theorem Q10 {r:Reach} {b0:Nat} (hsz:(DataW.weightsEach prog ts ds).all (· <=reachBytes)=true) {j:Nat} {d:DataW H} (hj:ts[j]?=some 3) (hd:ds[j]?=some d) {v:Value} {p:List MemPlace} (hv:Value.okWide prog W r b0 3 v)
  (h:DataW.Trod enc prog W 0 (λ_=>true) true 3 v d p): ∃x:Int,v= .int .i64 x/\Qzz x:=by
 obtain ⟨n,hg⟩:=U7 hsz hj hd h;obtain ⟨x,rfl,rfl,rfl,_⟩:=open_int Tryz.underlying3 hv h;obtain ⟨y,e1,h1⟩:=Q70 hg Tryz.underlying3;have e1':[Value.int .i64 x]=[.int .i64 y]:=e1;injection e1' with e1';injection e1' with _ e1';subst e1';exact ⟨x,rfl,h1⟩
end
end Go.Proofs.YtgnkmjeoaoongaaGreatDoor
