/-
  DiskWr3, WNm, WNmW, WSeg, WSegR, WNil.
-/
import Derived.Test.YtgnkmjeoaoongaaGreatDoorXa2
import Derived.Test.YtgnkmjeoaoongaaGreatDoorXa3
import Derived.Test.YtgnkmjeoaoongaaGreatDoorShelf
import Derived.Shelf.Strings.SlTrimAscii
set_option maxRecDepth 100000
set_option maxHeartbeats 800000
namespace Go.Proofs.YtgnkmjeoaoongaaGreatDoor
open Go.RowKit Go.Mer
theorem Qdh (w:World) (d m room:Nat) (fused:Bool) (left:Int) (L:Zu) (hD:Z1 w d m room fused left L) (name:ByteArray)
  (na:Option Addr) (nc:Nat) (hns:Rd w w.heap.size na [Value.string name]) (N:Int) (pa:Option Addr) (pc:Nat) (p:List UInt8) (hfull:Jl (Zk L)+p.length<=room)
  (hp:Rd w w.heap.size pa (u8s p)) (hc:Qo L name=none) (hfew:L.length<4096):
  Calls Tryz.prog 235 #[.pointer (some ⟨d,0,none⟩), .agg #[.slice na 1 nc, .int .i64 N, .slice pa p.length pc]] w λe w'=>
   e= .returned (.int .i64 0)/\ ∃c,c.abs=⟨p,0⟩/\Z1 w' d m room fused left (Qt L name c)/\Qv (FP d m L) (FP d m (Qt L name c)) w/\Kp (FP d m L) w w':=by
 obtain ⟨i0,hi,hz0,hz1,hz2⟩:=info_parts infoByte;obtain ⟨g,off,rfl,hg,_,hcn⟩:=hns.at_ (i:=0) rfl;simp only [Nat.add_zero] at hcn;have FA:=facts hD (nc:=nc) (N:=N) (pv:=(.slice pa p.length pc)) hcn;have f1:=FA.d0;have f2:=FA.d1;have f3:=FA.b0;have f4:=FA.b1;have f5:=FA.b2;have f6:=FA.nm;have f7:=FA.look;have f8:=FA.many;have f9:=FA.dr;have hdl:=Q3 hD.cell;have H1:Kp No w (w.alloc (.cells #[.slice (some ⟨g,off,none⟩) 1 nc, .int .i64 N,(.slice pa p.length pc)] 236)):=zK.alloc _;have HD:=zz hD;clear FA hns hcn;have hU:=λW (h:Kp No w W)=>Lc W d m room fused left L (hD.Q5 h);have hfit:=hD.fits;have hroom:=hD.roomy;have Q19:(L.length:Int)<=4096:=by have:=hD.few;omega
 have hgd:decide ((room:Int)-(Jl (Zk L):Int)<(p.length:Int))=false:=by simp;omega
 have hge:decide ((4096:Int)<=(L.length:Int))=false:=by simp;omega
 rw [hc] at f7;simp only [Option.map_none,Option.getD_none] at f7;have HC:=zz hc;have HP:=zz hp;have HI:=zz (And.intro hi (And.intro hz0 (And.intro hz1 hz2)));clear hc hp hi hz0 hz1 hz2;go_enter Tryz.func235,Tryz.ntmps235
 go_wp2_with fail
 obtain ⟨W1,hW1⟩: ∃W,W=w.alloc (.cells #[.slice (some ⟨g,off,none⟩) 1 nc, .int .i64 N, .slice pa p.length pc] 236):=⟨_,rfl⟩;rw [<-hW1] at f1 f2 f3 f4 f5 f6 f7 f8 f9 H1⊢;have HU:=zz hU;clear hW1 hU hD;refine zE [0,0,0,1,0,1,0,1,1,0] [0,1,2,4,3,5,6,7,8,9] ?_;repeat (first|refine zA ?_|refine zB ?_|refine zC ?_)
 refine Q6 (λnq=>?_);go_wp2_with fail
 have f0: ∀W,Kp No (W1.drewN nq) W->Kp No W1 W:=λW h=>h.of_drewN;refine zD No [0,0,0,0,0,0,0,0,2,0,0,0,0,0,0,0,0,0,0,0,0,0,0] [0,1,2,3,4,5,6,7,8,9,10,11,12,13,14,15,16,17,18,19,20,21,22] ?_;repeat (first|refine zA ?_|refine zB ?_|refine zC ?_)
 refine Q4 rfl rfl (λnu=>?_);go_wp2_with fail
 refine (HU.out _ (H1.drewN _)).mono ?_;rintro e W3 ⟨rfl,hk3⟩;go_wp2_with fail
 refine ⟨hk3.of_drewN.from_drewN _,?_⟩;have K3:Kp No W1 W3:=hk3.of_drewN;repeat (first|refine zA ?_|refine zB ?_|refine zC ?_)
 refine Q6 (λnq=>?_);clear hk3;go_wp2_with fail
 have hB0:(W3.drewN nq).heap.size=W3.heap.size:=rfl;have hBs:w.heap.size<=W3.heap.size:=Nat.le_trans H1.size K3.size;have KQ:Kp No w (W3.drewN nq):=(H1.trans_same K3).drewN nq;have K1:Kp No W1 ((W3.drewN nq).alloc (.cells #[.slice none 0 0, .int .i64 0] 164)):=(K3.drewN nq).alloc _;have hBg:((W3.drewN nq).alloc (.cells #[.slice none 0 0, .int .i64 0] 164)).heap[W3.heap.size]?=some (.cells #[.slice none 0 0, .int .i64 0] 164 (0,0)):=heap_alloc_new (W3.drewN nq) _;have KA:Kp No (W3.drewN nq) ((W3.drewN nq).alloc (.cells #[.slice none 0 0, .int .i64 0] 164)):=zK.alloc _;obtain ⟨WA,Qv5⟩: ∃W,W=(W3.drewN nq).alloc (.cells #[.slice none 0 0, .int .i64 0] 164):=⟨_,rfl⟩;obtain ⟨WQ,J0v⟩: ∃W,W=W3.drewN nq:=⟨_,rfl⟩;obtain ⟨B,hB⟩: ∃B,B=W3.heap.size:=⟨_,rfl⟩;rw [<-J0v,<-hB] at hB0;rw [<-hB] at hBs hBg⊢;rw [<-Qv5] at K1 KA hBg⊢;rw [<-J0v] at KQ KA;clear Qv5 J0v hB f0;have KW:Kp No w WA:=KQ.trans_same KA;have KD: ∀n,Kp No W1 (WA.drewN n):=λn=>K1.drewN n;refine zE [0,0,0,1,0,1,0,1,0,2] [0,1,2,4,8,3,5,6,7,9] ?_;repeat (first|refine zA ?_|refine zB ?_|refine zC ?_)
 refine Q4 rfl rfl (λng=>?_);have Qy6:=HD.out.Q5 (KW.drewN ng);obtain ⟨o,Qrd,hG⟩:=My (P:=Tryz.prog) (w:=WA.drewN ng) Tryz.underlying159 kindStr An Am Qy6.map name (.pointer (some ⟨B,0,none⟩));have hml:=Qy6.map.lt;obtain ⟨es,ck,hmm,_⟩:=Qy6.map;have hmw:=HD.out.map.lt;have HG:=zz hG;clear hG Qy6;go_wp2_with fail
 refine Q6 (λnq=>?_);go_wp2_with fail
 have hBm:B≠m:=Zc hBg (by exact hmm);have kC:Kp (One m) WA ((ChangeMaps.setBlock (WA.drewN ng) m o).drewN nq):=(((Kp.refl (One m) WA).drewN ng).setBlock (.inl rfl) o).drewN nq;have J5i:((ChangeMaps.setBlock (WA.drewN ng) m o).drewN nq).heap[m]?=some o:=Up (w:=WA.drewN ng) hml o;have J0a:=f5 WA K1;have hbl:=World.block_lt_of_cell? WA _ J0a;have Qr4:=(HP.out.keep KW λ_ _ x=>x).keep_map kC (λk off hk=>by rw [show k=m from hk];exact Qfd (by exact hmm) off);obtain ⟨WC,J58⟩: ∃W,W=(ChangeMaps.setBlock (WA.drewN ng) m o).drewN nq:=⟨_,rfl⟩;rw [<-J58] at kC J5i Qr4⊢;clear J58 Qrd
 have fb: ∀n,(WC.drewN n).cell? ⟨w.heap.size,2,none⟩=some (.slice pa p.length pc):=λn=>
  ((kC.drewN n).cell (p:=⟨w.heap.size,2,none⟩) hbl (by show ¬(w.heap.size=m);omega)).trans J0a
 have hgB:=kC.get hBg (λh=>hBm h);have fB: ∀n,(WC.drewN n).cell? ⟨B,0,none⟩=some (.slice none 0 0):=λn=>by rw [Q0 (w:=WC.drewN n) hgB];rfl
 clear f1 f2 f3 f4 f5 f6 f7 f8 f9 HU J0a hmm K3;refine zE [0,0,0,0,1,0,1,2,0,0,2] [0,1,2,3,5,4,6,7,8,9,10] ?_;repeat (first|refine zA ?_|refine zB ?_|refine zC ?_)
 refine Q4 rfl rfl (λna=>?_);obtain ⟨hi,hz0,hz1,hz2⟩:=HI.out
 obtain ⟨v',w',hrun,hown,hkp,hblk⟩:=Jk (P:=Tryz.prog) (w:=WC.drewN na) 42 42 42 5 i0 (.int .u8 0) 1 1 Tryz.underlying42 ⟨_,Tryz.underlying42⟩ hi hz0 hz1 hz2 rfl
  (.slice none 0 0) 0 [] (Own.nil _ _ _) (.slice pa p.length pc) p.length (u8s p) ⟨by simp [Zz],pa,pc,rfl,(Qr4.drewN na).mono (Nat.le_trans KW.size kC.size) (Nat.le_refl _)⟩ (Kk p)
  (by simp only [maxLen];omega) (by omega)
 have hkn:Kp No WC w':=(hkp.of_drewN).mono λk _ h=>by cases h
 have hcell:=hkn.get hgB λx=>x;refine wpList_append_run rfl rfl rfl rfl hrun (wpList_nil ⟨rfl,trivial,?_⟩);obtain ⟨a',c',hv'⟩: ∃a' c',v'= .slice a' (0+p.length) c':=by obtain ⟨_,a',c',h,_⟩:=hown;exact ⟨a',c',h⟩
 subst hv'
 have cs: ∀n,(w'.drewN n).cell? ⟨B,0,none⟩=some (.slice none 0 0):=λn=>by
  rw [Q0 (w:=w'.drewN n) hcell];rfl
 have fs: ∀n,(w'.drewN n).frozen? ⟨B,0,none⟩=false:=λn=>Qc (w:=w'.drewN n) hcell 0;have HO:=zz hown;have HB:=zz hblk;have HL:=zz hcell;clear hown hkp hblk hcell hrun hi hz0 hz1 hz2 HI hgB fB fb Qr4 hBg;repeat (first|refine zA ?_|refine zB ?_|refine zC ?_)
 refine Q4 rfl rfl (λn2=>?_);go_wp2_with fail
 refine Q6 (λnq=>?_);go_wp2_with fail
 go_ret
 have hks:Kp (One B) w' (((w'.drewN n2).setCell ⟨B,0,none⟩ (.slice a' (0+p.length) c')).drewN nq):=
  (((Kp.refl (One B) w').drewN n2).setCell (p:=⟨B,0,none⟩) (.inl rfl) _).drewN nq
 have Qqq:Kp (One m) WQ (((w'.drewN n2).setCell ⟨B,0,none⟩ (.slice a' (0+p.length) c')).drewN nq):=by
  have h1:Kp (One m) WQ w':=((Kp.of_no KA).trans_same kC).trans_no hkn;exact h1.trans hks λk hk hB=>by rw [show k=B from hB] at hk;omega
 have hcf:(((w'.drewN n2).setCell ⟨B,0,none⟩ (.slice a' (0+p.length) c')).drewN nq).heap[B]?=some (.cells #[.slice a' (0+p.length) c', .int .i64 0] 164 (0,0)):=
  Qh (w:=w'.drewN n2) HL.out 0 _
 have hne: ∀k,(Value.slice a' (0+p.length) c').ownBlock=some k-> ¬One B k:=λk hk e=>by
  obtain ⟨cur,hcur⟩:=HO.out.type k hk;exact Q7 hcur HL.out (by decide) e
 have hown:=HO.out.keep hks hne;rw [Nat.zero_add,List.nil_append] at hown;have htot:=Q0l (l:=Zk L) (k:=name) (y:=⟨p,0⟩) (by rw [Vn,HC.out];rfl);simp only [Nat.zero_add] at hks Qqq hcf hne hown⊢
 obtain ⟨h1,h2,h3⟩:=(HD.out.Q5 KQ).Qk9 (c':=⟨B, .slice a' p.length c',p,0⟩) HC.out Qqq (HG.out _ (hks.get (hkn.get J5i λx=>x) λh=>hBm (Eq.symm h)))
  ⟨hcf,hown,Nat.zero_le _⟩ (by show WQ.heap.size<=B;omega) (λk hk=>by
   have hk':(Value.slice a' p.length c').ownBlock=some k:=hk;have HB':=HB.out;simp only [Nat.zero_add] at HB';rcases HB' with h|⟨g',h,h'⟩
   ·rw [h] at hk';simp [Value.ownBlock] at hk'
   ·rw [h] at hk';injection hk' with hk';have hs1:=KA.size;have hs2:=kC.size;simp at h'
    omega) (by
   rw [Gj];simp only [Yj.abs] at htot⊢;omega) hfew
 exact ⟨rfl,_,rfl,h1,λk hk=>(h2 k hk).imp id λh=>Nat.le_trans KQ.size h,(Kp.of_no KQ).trans_same h3⟩
theorem Qbk (W:World) (b:UInt8):(convert 42 9 (.slice (some ⟨W.heap.size,0,none⟩) 1 1)).run Tryz.prog (W.alloc (.cells #[.int .u8 (b.toNat:Int)] 5))= .ok (.string ⟨#[b]⟩) (W.alloc (.cells #[.int .u8 (b.toNat:Int)] 5)):=
 run_convert_bytes_back (P:=Tryz.prog) (W.alloc (.cells #[.int .u8 (b.toNat:Int)] 5)) 42 9 5 ⟨W.heap.size,0,none⟩ 1 [b] Tryz.underlying42 Tryz.underlying5 Tryz.underlying9 (λj hj=>by
  have:j=0:=by simpa using hj
  subst this;rw [Addr.add_lit,Q0 (heap_alloc_new W _)];rfl)
theorem Ij {x y:List UInt8} {S:ByteArray} {c:UInt8} (h:S=⟨y.toArray⟩) (e:x=c::y):(⟨#[c]⟩:ByteArray)++S=⟨x.toArray⟩:=by
 subst h;subst e;apply ByteArray.ext
 simp
theorem Ct {P S:ByteArray} {l:List UInt8} (h:S=⟨l.toArray⟩):P++S=⟨(P.data.toList++l).toArray⟩:=by
 subst h;apply ByteArray.ext
 simp
theorem Io {S:ByteArray} {l:List UInt8} (h:S=⟨l.toArray⟩):S.size=l.length:=by
 subst h;rfl
theorem J06 (n:Nat): ∃q:Nat,q<10/\q=n % 10/\(n:Int).tmod 10=(q:Int)/\wrap64 (48+(q:Int))=48+(q:Int)/\(UInt8.ofNat (48+q)).toNat=48+q:=by
 refine ⟨n % 10,Nat.mod_lt _ (by decide),rfl,?_,IntWalk.wrap64_in _ (by omega),(Mh n).2⟩;rw [Int.tmod_eq_emod_of_nonneg (by omega)];exact (Int.natCast_emod n 10).symm
theorem Q5y (n:Nat) (hn:n<1000000) (w:World):
  Calls Tryz.prog 174 #[.int .i64 (n:Int)] w λe w'=>e= .returned (.string ⟨(Lib.decDigits n).toArray⟩)/\Kp No w w':=by
 go_enter Tryz.func174,Tryz.ntmps174
 go_wp2_with fail
 rename World=>w0;go_loopw [0,3] (λx s wr=> ∃(y:Nat) (S:ByteArray) (l:List UInt8),x= .int .i64 (y:Int)/\s= .string S/\S.size+y<=1000000/\y<1000000/\Hid (S=⟨l.toArray⟩/\Lib.decDigits n=Lib.decDigits y++l)/\Hid (Kp No w0 wr)) (λx _ _=>(intOf x).toNat)
 case atStart=>exact ⟨n,⟨#[]⟩,[],rfl,rfl,by simp [ByteArray.size];omega,hn,⟨rfl,by simp⟩,Kp.refl _ _⟩
 case round=>
  obtain ⟨y,S,l,rfl,rfl,hS,hy,HS,HK⟩:=hrel;obtain ⟨q,hq10,hq,hqm,Jat,Qyf⟩:=J06 y;have HQ:=zz hq;have hcv:=λW=>Qbk W (UInt8.ofNat (48+q));rw [Qyf,Int.natCast_add,show ((48:Nat):Int)=48 from rfl] at hcv;obtain ⟨c,hc⟩: ∃c,c=UInt8.ofNat (48+q):=⟨_,rfl⟩;rw [<-hc] at hcv;have HC:=zz hc;clear hq hc Qyf;by_cases hlt:y<10
  ·have hd0:(y:Int).tdiv 10=0:=Int.tdiv_eq_zero_of_lt (by omega) (by omega);go_wp2_with fail
   go_ret
   refine ⟨congrArg (λs=>Ending.returned (.string s)) (Ij HS.out.1 ?_),(show Kp No w0 wr from HK).alloc _⟩;rw [HS.out.2,V6 hlt,HC.out,HQ.out];rfl
  ·obtain ⟨z,hz⟩: ∃z,z=y/10:=⟨_,rfl⟩;have hd0:(y:Int).tdiv 10=(z:Int):=by rw [hz,Int.tdiv_eq_ediv_of_nonneg (by omega)];exact (Int.natCast_ediv y 10).symm
   have hz0:((z:Int)==0)=false:=by rw [beq_eq_false_iff_ne];omega
   have hzp:z<y:=by omega
   have HZ:=zz hz;have hzn: ¬z=0:=by omega
   clear hz;go_wp2_with fail
   go_roundw
   case rel=>
    refine ⟨z,_,c::l,rfl,rfl,?_,by omega,⟨Ij HS.out.1 rfl,?_⟩,(show Kp No w0 wr from HK).alloc _⟩
    ·rw [ByteArray.size_append];show 1+S.size+z<=_
     omega
    ·rw [HS.out.2,K7 hlt,HC.out,HQ.out,HZ.out];simp
   case measure=>simp [intOf];omega
def J2y:Value->Nat
 | .string S=>8-S.size
 |_=>0
theorem Qcg (P:ByteArray) (hP:P.size<=1000) (n:Nat) (hn:n<1000000) (w:World):
  Calls Tryz.prog 179 #[.string P, .int .i64 (n:Int)] w λe w'=>e= .returned (.string ⟨(Ms P.data.toList n).toArray⟩)/\Kp No w w':=by
 have hd:=Q5y n hn w;obtain ⟨D,hD⟩: ∃D:ByteArray,D=⟨(Lib.decDigits n).toArray⟩:=⟨_,rfl⟩;rw [<-hD] at hd;have hdl:=D6 5 n (by omega);have hDs:D.size=(Lib.decDigits n).length:=Io hD;have HD:=zz hD;have HC:=zz hd;clear hd hD;obtain ⟨d,hdd⟩: ∃d,d=(Lib.decDigits n).length:=⟨_,rfl⟩;rw [<-hdd] at hdl hDs;have Qyv:=zz hdd;clear hdd;go_enter Tryz.func179,Tryz.ntmps179
 go_wp2_with fail
 have hc:=HC.out;with_reducible refine hc.mono ?_
 rintro e w1 ⟨rfl,hk⟩;have U8:=zz hk;clear hc hk;go_wp2_with fail
 go_loopw [5] (λs wr=> ∃(j:Nat) (S:ByteArray),s= .string S/\S.size=j+d/\j+d<=8/\Hid (S=⟨(List.replicate j 48++Lib.decDigits n).toArray⟩)/\w1=wr) (λs _=>J2y s)
 case atStart=>exact ⟨0,D,rfl,by omega,by omega,HD,rfl⟩
 case round=>
  obtain ⟨j,S,rfl,hS,hj,HS,rfl⟩:=hrel;rcases Nat.lt_or_ge (j+d) 8 with hlt|hge
  ·have e1:decide ((S.size:Int)<8)=true:=by rw [decide_eq_true_iff];omega
   have J8a:S.size<8:=by omega
   go_wp2_with fail
   go_roundw
   case rel=>
    refine ⟨j+1,_,rfl,?_,by omega,(Ij HS.out (by rw [List.replicate_succ];rfl)),trivial⟩;rw [ByteArray.size_append];show 1+S.size=_
    omega
   case measure=>
    show 8-(_:ByteArray).size<8-S.size
    rw [ByteArray.size_append];show 8-(1+S.size)<_
    omega
  ·have e1:decide ((S.size:Int)<8)=false:=by rw [decide_eq_false_iff_not];omega
   have J8a: ¬S.size<8:=by omega
   go_wp2_with fail
   go_ret
   refine ⟨congrArg (λs=>Ending.returned (.string s)) ((Ct HS.out).trans ?_),U8.out⟩;have J8p:j=8-(Lib.decDigits n).length:=by rw [<-Qyv.out];omega
   rw [J8p];rfl
theorem Qpu:Tryz.prog.globalNamed "internal/strconv.uint64pow10" =some 0:=by kernel_rfl
def Pow (w:World):Prop:=Lib.TabIs Tryz.prog w "internal/strconv.uint64pow10" .u64 Lib.pow10Tab
theorem Pow.keep {w w':World} (h:Pow w) (hk:Kp No w w'):Pow w':=by
 unfold Pow Lib.TabIs World.var? at h⊢;rw [Qpu] at h⊢;simp only [Option.bind_some] at h⊢;cases hg:w.heap[0]? with
 |none=>rw [hg] at h;simp at h
 |some o=>rw [hk.get hg λx=>x];rw [hg] at h;exact h
theorem Q0t (o:Nat) (h:o<=1000000) (w:World) (ht:Pow w):Calls Tryz.prog 152 #[.int .i64 (o:Int)] w λe w'=>e= .returned (.string ⟨(Lib.decDigits o).toArray⟩)/\Kp No w w':=by
 refine (Tryz.strconv_Itoa (o:Int) (by omega) (by omega) w ht).mono ?_;rintro e w1 ⟨rfl,k,os,hw⟩;refine ⟨?_,?_⟩
 ·have:Lib.itoa (o:Int)=Lib.decDigits o:=by
   unfold Lib.itoa;simp
  rw [this]
 ·rw [hw];refine ⟨rfl,rfl,rfl,by show w.heap.size<=(w.heap++os).size;simp,λj hj _=>?_⟩;show (w.heap++os)[j]?=_
  exact Array.getElem?_append_left hj
theorem Qdn (c:Nat) (hc:c<=8) (w:World):Calls Tryz.prog 230 #[.string ⟨#[48]⟩, .int .i64 (c:Int)] w λe w'=>e= .returned (.string ⟨(List.replicate c 48).toArray⟩)/\Kp No w w':=by
 refine (Tryz.strings_Repeat ⟨#[48]⟩ c w (by omega) (by show 1*c<=_;omega)).mono ?_;rintro e w1 ⟨rfl,hb⟩;refine ⟨?_,Kp.of_below hb λk hk hb=>absurd hk (by omega)⟩;have:=Lib.repeatL_replicate (48:UInt8) 1 c;rw [Nat.mul_one] at this;rw [<-this];rfl
theorem Qda (P:ByteArray) (hP:P.size<=1000) (n:Nat) (hn:n<1000000) (w:World) (ht:Pow w):
  Calls Tryz.prog 184 #[.string P, .int .i64 (n:Int)] w λe w'=>e= .returned (.string ⟨(Ms P.data.toList n).toArray⟩)/\Kp No w w':=by
 have hd:=Q0t n (by omega) w ht;obtain ⟨D,hD⟩: ∃D:ByteArray,D=⟨(Lib.decDigits n).toArray⟩:=⟨_,rfl⟩;rw [<-hD] at hd;have hdl:=D6 5 n (by omega);have hDs:D.size=(Lib.decDigits n).length:=Io hD;have HD:=zz hD;have HC:=zz hd;clear hd hD;obtain ⟨d,hdd⟩: ∃d,d=(Lib.decDigits n).length:=⟨_,rfl⟩;rw [<-hdd] at hdl hDs;have Qyv:=zz hdd;clear hdd;obtain ⟨k,hk⟩: ∃k,k=8-d:=⟨_,rfl⟩;have hw8:wrap64 (8-(D.size:Int))=(k:Int):=by rw [IntWalk.wrap64_in _ (by omega),hk,hDs];omega
 have hk8:k<=8:=by omega
 have hmx:max (0:Int) (8-(d:Int))=(k:Int):=by omega
 have hkp:2<=k:=by omega
 have hz:=λW=>Qdn k hk8 W;obtain ⟨Z,hZ⟩: ∃Z:ByteArray,Z=⟨(List.replicate k 48).toArray⟩:=⟨_,rfl⟩;rw [<-hZ] at hz;have hZs:Z.size=k:=by rw [Io hZ,List.length_replicate]
 have HZ:=zz hZ;have J7i:=zz hz;have HKK:=zz hk
 have hN:(P++Z)++D=⟨(Ms P.data.toList n).toArray⟩:=by
  rw [Ct HD.out,Ct HZ.out];rw [show Ms P.data.toList n=P.data.toList++(List.replicate (8-(Lib.decDigits n).length) 48++Lib.decDigits n) from rfl,<-Qyv.out,<-hk];simp
 have HN:=zz hN;clear hz hZ hk hN;go_enter Tryz.func184,Tryz.ntmps184
 go_wp2_with fail
 have hc:=HC.out;with_reducible refine hc.mono ?_
 rintro e w1 ⟨rfl,hk⟩;have U8:=zz hk;clear hc hk;go_wp2_with fail
 have hc:=J7i.out w1;with_reducible refine hc.mono ?_
 rintro e w2 ⟨rfl,hk⟩;have Qz:=zz (U8.out.trans_same hk);clear hc hk;go_wp2_with fail
 go_ret
 exact ⟨congrArg (λs=>Ending.returned (.string s)) HN.out,Qz.out⟩
end Go.Proofs.YtgnkmjeoaoongaaGreatDoor
