/- store -/
import Derived.Test.YtgnkmjeoaoongaaGreatDoorIter
import Derived.Test.YtgnkmjeoaoongaaGreatDoorVb2
set_option maxRecDepth 100000
set_option maxHeartbeats 2000000
namespace Go.Proofs.YtgnkmjeoaoongaaGreatDoor
open Go.RowKit Go.Mer Go.Maps Go.Sort Go.Shelf
theorem Q1p (m:Nat):AnyZ.SortsIn Tryz.prog Tryz.sorted64_ren Fence.wide m:=
 ⟨λblk off cap ss W hH hblk hsz=>callsIn_wide.2 (AnyM.slices_Sort_string Tryz.sort118 blk off cap ss W hH hblk hsz),
  λp cap W=>callsIn_wide.2 (AnyM.slices_Sort_string_none Tryz.sort118 p cap W)⟩
theorem Qg3 (mb:Option Nat) (W:World):Calls Tryz.prog 150 #[.map mb] W λe w'=>e= .returned (.func (.func 209) #[] #[.pointer (some ⟨W.heap.size,0,none⟩)])/\w'=W.alloc (.cells #[.map mb] 159):=
 (callsIn_wide (n:=5)).1 (AnyZ.keys_in Tryz.keys150 Fence.wide 5 trivial rfl mb W)
theorem Q9b {H:Type} (b nn:Nat) (D0:DataW H) (R:Value->Option (DataW H×List MemPlace)) (w:World) (hown:w.ownsMap Tryz.prog 9 R b nn D0) (hmax:Maps.size D0<=maxLen) (hbytes:Maps.size D0*16<=140737488355328):
  Calls Tryz.prog 64 #[.func (.func 209) #[] #[.pointer (some ⟨w.heap.size,0,none⟩)]] (w.alloc (.cells #[.map (some b)] 159)) λe w'=> ∃(v:Value) (ss:List (List UInt8)),e= .returned v/\ss.Perm (strKeys D0)/\
   w'.ownsRow (w.alloc (.cells #[.map (some b)] 159)).heap.size 9 1 v ss.length ((ss.mergeSort (λx y=>decide (x<=y))).map encStr)/\(v= .slice none 0 0↔ss=[])/\Below (w.alloc (.cells #[.map (some b)] 159)).heap.size (w.alloc (.cells #[.map (some b)] 159)) w':=by
 have hbl:=hown.lt
 have hseq:SeqGives Fence.wide 2 Tryz.prog 209 #[.pointer (some ⟨w.heap.size,0,none⟩)] encStr (λss=>ss.Perm (strKeys D0)) (Maps.size D0) (w.alloc (.cells #[.map (some b)] 159)):=
  AnyZ.keys_gives (ρ:=Tryz.keys150_ren) {Tryz.keys150 with} Fence.wide _ trivial rfl (by omega) w.heap.size b nn D0 _ (by simp) (by simp) (by
   obtain ⟨es,clock,hb,Ft,hs,hD⟩:=hown;exact ⟨es,clock,(Below.heap_alloc _ _ b hbl).trans hb,Ft,hs,hD⟩)
 exact (callsIn_wide (n:=5)).1 (AnyZ.sorted_in Tryz.sorted64 Fence.wide 5 trivial trivial trivial trivial rfl (by omega) (Q1p _) (enters_of Tryz.func118 (by kernel_rfl) rfl) 209 #[.pointer (some ⟨w.heap.size,0,none⟩)] trivial (enters_of Tryz.func209 (by kernel_rfl) rfl) _ _ hmax hbytes _ hseq)
def Qca (kv:Value×Value):Lit×DataW Unit:=match kv.1 with| .string s=>(Lit.string s.data.toList,DataW.nil)|_=>(Lit.bool false,DataW.nil)
theorem U2.owns {w:World} {m:Nat} {l:List (ByteArray×Value)} (h:U2 Value.string w m l) (hl: ∀p∈l,p.1.size<=maxLen) (hn:l.length<=maxLen):
  ∃(D0:DataW Unit) (nn:Nat),w.ownsMap Tryz.prog 9 (λ_=>some (.nil,[])) m nn D0/\(strKeys D0).Perm (l.map (·.1.data.toList))/\Maps.size D0=l.length:=by
 obtain ⟨es,clock,hm,hs,hp⟩:=h;have hsz:es.size=l.length:=by have:=congrArg List.length hp;simpa using this
 have hkey: ∀x∈es.toList,∃p∈l,x.key= .string p.1:=λx hx=>by
  have:(x.key,x.val)∈es.toList.map λe=>(e.key,e.val):=List.mem_map.2 ⟨x,hx,rfl⟩;rw [hp] at this;obtain ⟨p,hp',he⟩:=List.mem_map.1 this;exact ⟨p,hp',(Prod.mk.inj he).1.symm⟩
 have hrd: ∀x∈es.toList,∀s:ByteArray,x.key= .string s->s.size<=maxLen->WideElems.rd (H:=Unit) Tryz.prog 9 (λ_=>some (.nil,[])) x=some (.string s.data.toList, .nil):=λx _ s hk hs=>by
  unfold WideElems.rd;rw [hk,WideMaps.keyOf_string_mk kindStr hs];rfl
 have hrg:es.toList.map (WideElems.rg (H:=Unit) Tryz.prog 9 (λ_=>some (.nil,[])))=l.map λp=>(Lit.string p.1.data.toList,DataW.nil):=by
  have h1: ∀x∈es.toList,WideElems.rg (H:=Unit) Tryz.prog 9 (λ_=>some (.nil,[])) x=Qca (x.key,x.val):=λx hx=>by
   obtain ⟨p,hp',hk⟩:=hkey x hx;unfold WideElems.rg;rw [hrd x hx p.1 hk (hl p hp'),hk];rfl
  rw [List.map_congr_left h1,show (es.toList.map λx=>Qca (x.key,x.val))=(es.toList.map λx=>(x.key,x.val)).map Qca from by rw [List.map_map];rfl,hp,List.map_map];rfl
 refine ⟨.map ((es.toList.map (WideElems.rg (H:=Unit) Tryz.prog 9 (λ_=>some (.nil,[])))).foldr DataW.insert []),es.size,⟨es,clock,hm,⟨by omega,hs,λx hx=>?_⟩,Nat.le_refl _,rfl⟩,?_,?_⟩
 ·obtain ⟨p,hp',hk⟩:=hkey x hx;exact ⟨_,hrd x hx p.1 hk (hl p hp')⟩
 ·have h1:=(WideShapes.sorted_perm (l.map λp=>(Lit.string p.1.data.toList,(DataW.nil:DataW Unit)))).map λp=>strOf p.1;rw [hrg];refine h1.trans ?_;rw [List.map_map];exact List.Perm.refl _
 ·rw [hrg,Maps.size_eq,(WideShapes.sorted_perm _).length_eq,List.length_map]
def Xy (ss:List (List UInt8)):List ByteArray:=(ss.mergeSort λx y=>decide (x<=y)).map λb=>⟨b.toArray⟩
theorem Qf4 (w:World) (d:Nat) (s:Qz) (F:Nat->Prop) (hD:Zd w d s F) (hl: ∀p∈s.files,p.1.size<=maxLen):
  Calls Tryz.prog 95 #[.pointer (some ⟨d,0,none⟩)] w λe w'=> ∃(ss:List (List UInt8)) (a:Option Addr) (c:Nat),e= .returned (.slice a (Xy ss).length c)/\ss.Perm (s.files.map (·.1.data.toList))/\
   Rd w' w'.heap.size a ((Xy ss).map Value.string)/\Kp No w w':=by
 obtain ⟨m,fused,left,L,hC,hf,hs,hF,Qb9⟩:=hD;have hfew:=hC.few
 obtain ⟨D0,nn,hown,hperm,hsize⟩:=U2.owns hC.map (λp hp=>by
  obtain ⟨q,hq,rfl⟩:=List.mem_map.1 hp;exact hl (q.1,q.2.abs) (by rw [hs];exact List.mem_map.2 ⟨q,hq,rfl⟩)) (by simp only [M4,List.length_map,maxLen];omega)
 have hsz:Maps.size D0<=4096:=by rw [hsize];simpa [M4] using hfew
 have c1:=Q4 hC.cell 1;have hdl:=Q7 hC.cell;simp at c1
 have hsorted:=Q9b m nn D0 _ w hown (by simp only [maxLen];omega) (by omega);have HS:=zz hsorted;have HP:=zz hperm;have HF:=zz hs;clear hsorted hperm hown hs hC hf hF Qb9 hl hsize hsz;go_enter Tryz.func95,Tryz.ntmps95
 go_wp2_with fail
 refine (Qg3 _ _).mono ?_;rintro e w1 ⟨rfl,rfl⟩;go_wp2_with fail
 refine (HS.out).mono ?_;rintro e w2 ⟨v,ss,rfl,hp,hrow,_,hb⟩;have HP2:=zz hp;have HR:=zz hrow;have HB:=zz hb;clear hp hrow hb;go_wp2_with fail
 go_ret
 have hlen:(Xy ss).length=ss.length:=by simp [Xy]
 have hk:Kp No w w2:=((Kp.refl No w).alloc _).Q0 (Kp.of_below HB.out λk hk hs=>by simp at hk hs;omega);have hxs:(ss.mergeSort λx y=>decide (x<=y)).map encStr=(Xy ss).map Value.string:=by simp [Xy,encStr]
 have hpp:ss.Perm (s.files.map (·.1.data.toList)):=by
  have:=HP2.out.trans HP.out;rw [show M4 L=L.map λp=>(p.1,p.2.ptr) from rfl,List.map_map] at this;rw [HF.out,show Zy L=L.map λp=>(p.1,p.2.abs) from rfl,List.map_map];exact this
 obtain ⟨_,⟨rfl,h0⟩|⟨g,cap,cur,rfl,_,hg,_,_,_,hx⟩⟩:=HR.out
 ·have hss:ss=[]:=List.eq_nil_of_length_eq_zero h0;subst hss;exact ⟨[],none,0,by rw [hlen];rfl,hpp,by simp [Xy];exact Rd.nil _ _ _,hk⟩
 ·refine ⟨ss,some ⟨g,0,none⟩,cap,by rw [hlen];rfl,hpp,?_,hk⟩;refine Rd.row hg ?_ (Q7 hg) (Nat.le_refl _) (n:=ss.length);rw [<-hxs,<-hx];simp
theorem Q5i {w0:World} {a:Option Addr} {c n b:Nat} {xs:List Value} {u:Value} (h:Mer.Own w0 5 1 (.slice a n c) n xs) (hf: ∀g,(Value.slice a n c).ownBlock=some g->g≠b):Mer.Own (w0.setCell ⟨b,0,none⟩ u) 5 1 (.slice a n c) n xs:=
 h.keep ((Kp.refl (λj=>j=b) w0).setCell (p:=⟨b,0,none⟩) (.inl rfl) u) λg hg hb=>hf g hg hb
theorem Qr5 (r:Qu) (a:Option Addr) (cap:Nat) (w:World) (HB:Hid (Za r.v.m r.v.c=true)) (d1:decide (0<=r.o)=true) (d2:decide (r.o<5)=true) (d3:decide (1<=r.seq)=true) (d4:decide (r.seq<=1099511627776)=true) (d5:decide (1<=(r.key.size:Int))=true) (_:decide (1<=r.key.size)=true) (d6:decide ((r.key.size:Int)<=64)=true) (_:decide (r.key.size<=64)=true) (d7:(r.v.o==r.o)=true) (d8:decide ((r.v.val.length:Int)<=1024)=true) (_:decide (r.v.val.length<=1024)=true) (d9:decide (0<=r.v.ttl)=true) (da:decide (r.v.ttl<=281474976710655)=false) (HR:Hid (Z4 r=false)):
  Calls Tryz.prog 109 #[.agg #[.int .i64 r.o, .int .i64 r.seq, .string r.key, .int .i64 r.v.m, .int .i64 r.v.c, .int .i64 r.v.o, .slice a r.v.val.length cap, .bool r.v.gone, .int .i64 r.v.ttl]] w λe w'=>e= .returned (.bool (Z4 r))/\Kp No w w':=by
 obtain ⟨z,hz⟩: ∃z,z=Z4 r:=⟨_,rfl⟩;rw [<-hz] at HR⊢;clear hz;go_enter Tryz.func109,Tryz.ntmps109
 go_wp2_with fail
 first|(refine (Yr _ _ _ HB.out).mono ?_)|(refine (Zl _ _ _ HB.out).mono ?_)
 rintro e w' ⟨rfl,hk⟩;have hk':Kp No w w':=(zK.alloc _).Q0 hk;have hc:=hk.get (heap_alloc_new w _) λx=>x;have c0:=Q4 hc 0;have c1:=Q4 hc 1;have c2:=Q4 hc 2;have c5:=Q4 hc 5;have c6:=Q4 hc 6;have c7:=Q4 hc 7;have c8:=Q4 hc 8;have hlt:=Q7 hc;simp at c0 c1 c2 c5 c6 c7 c8
 clear hc hk;have hun: ∀b:Bool,(undef=Value.bool b)=False:=λb=>by unfold undef;simp
 go_wp2_with fail
 all_goals
  go_ret
  exact ⟨by rw [HR.out];rfl,hk'⟩
theorem Qr6 (r:Qu) (a:Option Addr) (cap:Nat) (w:World) (HB:Hid (Za r.v.m r.v.c=true)) (d1:decide (0<=r.o)=true) (d2:decide (r.o<5)=true) (d3:decide (1<=r.seq)=true) (d4:decide (r.seq<=1099511627776)=true) (d5:decide (1<=(r.key.size:Int))=true) (_:decide (1<=r.key.size)=true) (d6:decide ((r.key.size:Int)<=64)=true) (_:decide (r.key.size<=64)=true) (d7:(r.v.o==r.o)=true) (d8:decide ((r.v.val.length:Int)<=1024)=true) (_:decide (r.v.val.length<=1024)=true) (d9:decide (0<=r.v.ttl)=true) (da:decide (r.v.ttl<=281474976710655)=true) (db:r.v.gone=false) (HR:Hid (Z4 r=true)):
  Calls Tryz.prog 109 #[.agg #[.int .i64 r.o, .int .i64 r.seq, .string r.key, .int .i64 r.v.m, .int .i64 r.v.c, .int .i64 r.v.o, .slice a r.v.val.length cap, .bool r.v.gone, .int .i64 r.v.ttl]] w λe w'=>e= .returned (.bool (Z4 r))/\Kp No w w':=by
 obtain ⟨z,hz⟩: ∃z,z=Z4 r:=⟨_,rfl⟩;rw [<-hz] at HR⊢;clear hz;go_enter Tryz.func109,Tryz.ntmps109
 go_wp2_with fail
 first|(refine (Yr _ _ _ HB.out).mono ?_)|(refine (Zl _ _ _ HB.out).mono ?_)
 rintro e w' ⟨rfl,hk⟩;have hk':Kp No w w':=(zK.alloc _).Q0 hk;have hc:=hk.get (heap_alloc_new w _) λx=>x;have c0:=Q4 hc 0;have c1:=Q4 hc 1;have c2:=Q4 hc 2;have c5:=Q4 hc 5;have c6:=Q4 hc 6;have c7:=Q4 hc 7;have c8:=Q4 hc 8;have hlt:=Q7 hc;simp at c0 c1 c2 c5 c6 c7 c8
 clear hc hk;have hun: ∀b:Bool,(undef=Value.bool b)=False:=λb=>by unfold undef;simp
 go_wp2_with fail
 all_goals
  go_ret
  exact ⟨by rw [HR.out];rfl,hk'⟩
theorem Qr7 (r:Qu) (a:Option Addr) (cap:Nat) (w:World) (HB:Hid (Za r.v.m r.v.c=true)) (d1:decide (0<=r.o)=true) (d2:decide (r.o<5)=true) (d3:decide (1<=r.seq)=true) (d4:decide (r.seq<=1099511627776)=true) (d5:decide (1<=(r.key.size:Int))=true) (_:decide (1<=r.key.size)=true) (d6:decide ((r.key.size:Int)<=64)=true) (_:decide (r.key.size<=64)=true) (d7:(r.v.o==r.o)=true) (d8:decide ((r.v.val.length:Int)<=1024)=true) (_:decide (r.v.val.length<=1024)=true) (d9:decide (0<=r.v.ttl)=true) (da:decide (r.v.ttl<=281474976710655)=true) (db:r.v.gone=true) (dc:((r.v.val.length:Int)==0)=false) (_:(r.v.val.length==0)=false) (HR:Hid (Z4 r=false)):
  Calls Tryz.prog 109 #[.agg #[.int .i64 r.o, .int .i64 r.seq, .string r.key, .int .i64 r.v.m, .int .i64 r.v.c, .int .i64 r.v.o, .slice a r.v.val.length cap, .bool r.v.gone, .int .i64 r.v.ttl]] w λe w'=>e= .returned (.bool (Z4 r))/\Kp No w w':=by
 obtain ⟨z,hz⟩: ∃z,z=Z4 r:=⟨_,rfl⟩;rw [<-hz] at HR⊢;clear hz;go_enter Tryz.func109,Tryz.ntmps109
 go_wp2_with fail
 first|(refine (Yr _ _ _ HB.out).mono ?_)|(refine (Zl _ _ _ HB.out).mono ?_)
 rintro e w' ⟨rfl,hk⟩;have hk':Kp No w w':=(zK.alloc _).Q0 hk;have hc:=hk.get (heap_alloc_new w _) λx=>x;have c0:=Q4 hc 0;have c1:=Q4 hc 1;have c2:=Q4 hc 2;have c5:=Q4 hc 5;have c6:=Q4 hc 6;have c7:=Q4 hc 7;have c8:=Q4 hc 8;have hlt:=Q7 hc;simp at c0 c1 c2 c5 c6 c7 c8
 clear hc hk;have hun: ∀b:Bool,(undef=Value.bool b)=False:=λb=>by unfold undef;simp
 go_wp2_with fail
 all_goals
  go_ret
  exact ⟨by rw [HR.out];rfl,hk'⟩
theorem Qr8 (r:Qu) (a:Option Addr) (cap:Nat) (w:World) (HB:Hid (Za r.v.m r.v.c=true)) (d1:decide (0<=r.o)=true) (d2:decide (r.o<5)=true) (d3:decide (1<=r.seq)=true) (d4:decide (r.seq<=1099511627776)=true) (d5:decide (1<=(r.key.size:Int))=true) (_:decide (1<=r.key.size)=true) (d6:decide ((r.key.size:Int)<=64)=true) (_:decide (r.key.size<=64)=true) (d7:(r.v.o==r.o)=true) (d8:decide ((r.v.val.length:Int)<=1024)=true) (_:decide (r.v.val.length<=1024)=true) (d9:decide (0<=r.v.ttl)=true) (da:decide (r.v.ttl<=281474976710655)=true) (db:r.v.gone=true) (dc:((r.v.val.length:Int)==0)=true) (_:(r.v.val.length==0)=true) (dd:(r.v.ttl==0)=false) (HR:Hid (Z4 r=false)):
  Calls Tryz.prog 109 #[.agg #[.int .i64 r.o, .int .i64 r.seq, .string r.key, .int .i64 r.v.m, .int .i64 r.v.c, .int .i64 r.v.o, .slice a r.v.val.length cap, .bool r.v.gone, .int .i64 r.v.ttl]] w λe w'=>e= .returned (.bool (Z4 r))/\Kp No w w':=by
 obtain ⟨z,hz⟩: ∃z,z=Z4 r:=⟨_,rfl⟩;rw [<-hz] at HR⊢;clear hz;go_enter Tryz.func109,Tryz.ntmps109
 go_wp2_with fail
 first|(refine (Yr _ _ _ HB.out).mono ?_)|(refine (Zl _ _ _ HB.out).mono ?_)
 rintro e w' ⟨rfl,hk⟩;have hk':Kp No w w':=(zK.alloc _).Q0 hk;have hc:=hk.get (heap_alloc_new w _) λx=>x;have c0:=Q4 hc 0;have c1:=Q4 hc 1;have c2:=Q4 hc 2;have c5:=Q4 hc 5;have c6:=Q4 hc 6;have c7:=Q4 hc 7;have c8:=Q4 hc 8;have hlt:=Q7 hc;simp at c0 c1 c2 c5 c6 c7 c8
 clear hc hk;have hun: ∀b:Bool,(undef=Value.bool b)=False:=λb=>by unfold undef;simp
 go_wp2_with fail
 all_goals
  go_ret
  exact ⟨by rw [HR.out];rfl,hk'⟩
theorem Qmq (r:Qu) (a:Option Addr) (cap:Nat) (w:World) (HB:Hid (Za r.v.m r.v.c=true)) (d1:decide (0<=r.o)=true) (d2:decide (r.o<5)=true) (d3:decide (1<=r.seq)=true) (d4:decide (r.seq<=1099511627776)=true) (d5:decide (1<=(r.key.size:Int))=true) (_:decide (1<=r.key.size)=true) (d6:decide ((r.key.size:Int)<=64)=true) (_:decide (r.key.size<=64)=true) (d7:(r.v.o==r.o)=true) (d8:decide ((r.v.val.length:Int)<=1024)=true) (_:decide (r.v.val.length<=1024)=true) (d9:decide (0<=r.v.ttl)=true) (da:decide (r.v.ttl<=281474976710655)=true) (db:r.v.gone=true) (dc:((r.v.val.length:Int)==0)=true) (_:(r.v.val.length==0)=true) (dd:(r.v.ttl==0)=true) (HR:Hid (Z4 r=true)):
  Calls Tryz.prog 109 #[.agg #[.int .i64 r.o, .int .i64 r.seq, .string r.key, .int .i64 r.v.m, .int .i64 r.v.c, .int .i64 r.v.o, .slice a r.v.val.length cap, .bool r.v.gone, .int .i64 r.v.ttl]] w λe w'=>e= .returned (.bool (Z4 r))/\Kp No w w':=by
 obtain ⟨z,hz⟩: ∃z,z=Z4 r:=⟨_,rfl⟩;rw [<-hz] at HR⊢;clear hz;go_enter Tryz.func109,Tryz.ntmps109
 go_wp2_with fail
 first|(refine (Yr _ _ _ HB.out).mono ?_)|(refine (Zl _ _ _ HB.out).mono ?_)
 rintro e w' ⟨rfl,hk⟩;have hk':Kp No w w':=(zK.alloc _).Q0 hk;have hc:=hk.get (heap_alloc_new w _) λx=>x;have c0:=Q4 hc 0;have c1:=Q4 hc 1;have c2:=Q4 hc 2;have c5:=Q4 hc 5;have c6:=Q4 hc 6;have c7:=Q4 hc 7;have c8:=Q4 hc 8;have hlt:=Q7 hc;simp at c0 c1 c2 c5 c6 c7 c8
 clear hc hk;have hun: ∀b:Bool,(undef=Value.bool b)=False:=λb=>by unfold undef;simp
 go_wp2_with fail
 all_goals
  go_ret
  exact ⟨by rw [HR.out];rfl,hk'⟩
end Go.Proofs.YtgnkmjeoaoongaaGreatDoor
