/-
  RDisk, RD5, WNum, Stamps, SOrd.
-/
import Derived.Test.YtgnkmjeoaoongaaGreatDoorXa6
import Derived.Test.YtgnkmjeoaoongaaGreatDoorXb0
set_option maxRecDepth 100000
set_option maxHeartbeats 2000000
namespace Go.Mer
open Go Go.RowKit
def Ug (x y:ByteArray):Prop:=x.data.toList<y.data.toList
instance J05 (x y:ByteArray):Decidable (Ug x y):=inferInstanceAs (Decidable (x.data.toList<y.data.toList))
theorem bytes_inj {x y:ByteArray} (h:x.data.toList=y.data.toList):x=y:=by
 obtain ⟨x⟩:=x;obtain ⟨y⟩:=y;exact congrArg ByteArray.mk (Array.toList_inj.1 h)
theorem J5 (x:ByteArray): ¬Ug x x:=List.lt_irrefl _
theorem U5 {x y z:ByteArray} (h:Ug x y) (h':Ug y z):Ug x z:=List.lt_trans h h'
theorem Cd (x y:ByteArray):Ug x y\/x=y\/Ug y x:=by
 by_cases h:x.data.toList<y.data.toList
 ·exact .inl h
 ·have h1:y.data.toList<=x.data.toList:=List.not_lt.1 h;by_cases h2:y.data.toList<x.data.toList
  ·exact .inr (.inr h2)
  ·exact .inr (.inl (bytes_inj (List.le_antisymm (List.not_lt.1 h2) h1)))
theorem Q5b (x y:ByteArray):Op.bytesLess x.toList y.toList=decide (Ug x y):=by
 rw [Go.Proofs.bytesLess_eq,Lib.toList_data,Lib.toList_data];rfl
theorem Q5c {x y:ByteArray} (h:Ug x y):Op.bytesLess x.toList y.toList=true:=by rw [Q5b];exact decide_eq_true h
theorem Cb {x y:ByteArray} (h: ¬Ug x y):Op.bytesLess x.toList y.toList=false:=by rw [Q5b];exact decide_eq_false h
section
variable {K β:Type} [DecidableEq K]
theorem Zb {T S:List (K×β)} (hp:T.Perm S) (hn:(T.map (·.1)).Nodup) (k:K):Qo T k=Qo S k:=by
 have hn':(S.map (·.1)).Nodup:=(hp.map _).nodup_iff.1 hn;cases h:Qo S k with
 |none=>
  refine Ya λhm=>Zw.1 h ?_;exact (hp.map _).mem_iff.1 hm
 |some v=>exact Xj hn (hp.mem_iff.2 (Qw h))
theorem Q17 {T S:List (K×β)} (hp:T.Perm S) (k:K) (v:β):(Qt T k v).Perm (Qt S k v):=by
 unfold Qt;by_cases h:k∈T.map (·.1)
 ·rw [if_pos h,if_pos ((hp.map _).mem_iff.1 h)];exact hp.map _
 ·rw [if_neg h,if_neg (λh'=>h ((hp.map _).mem_iff.2 h'))];exact hp.append_right _
theorem Qfx {l1 l2:List (K×β)} {k:K} (v:β) (h:k∉(l1++l2).map (·.1)):(l1++(k,v)::l2).Perm (Qt (l1++l2) k v):=by
 rw [Oa h,List.append_assoc];exact List.Perm.append_left _ ((List.perm_append_singleton (k,v) l2).symm)
end
end Go.Mer
namespace Go.Proofs.YtgnkmjeoaoongaaGreatDoor
open Go.RowKit Go.Mer
structure Qj where
 name:ByteArray
 a:Option Addr
 cap:Nat
 data:List UInt8
 lasts:Nat
def Qj.val (f:Qj):Value:= .slice f.a f.data.length f.cap
def Qj.cells (f:Qj):List Value:=[.string f.name, .slice f.a f.data.length f.cap, .int .i64 (f.lasts:Int)]
def Qj.pair (f:Qj):ByteArray×Ek:=(f.name,⟨f.data,f.lasts⟩)
theorem Qj.Y9 (f:Qj):f.cells.length=3:=rfl
theorem Qj.cells_one (f:Qj): ∀u∈f.cells,u.oneCell'=true:=by
 intro u hu;simp only [Qj.cells,List.mem_cons,List.not_mem_nil,or_false] at hu;rcases hu with rfl|rfl|rfl<;>rfl
def Z5 (L:List Qj):Jo:=L.map Qj.pair
def Y6 (L:List Qj):Prop:=L.Pairwise λf g=>Ug f.name g.name
def leftOf:Option Nat->Int
 |none=> -1
 |some n=>(n:Int)
def U9 (w:World) (f:Qj):Prop:=Own w 5 1 f.val f.data.length (u8s f.data)/\f.lasts<=f.data.length
structure RC (w:World) (r room:Nat) (left:Int) (rv:Value) (L:List Qj):Prop where
 cell:w.heap[r]?=some (.cells #[.int .i64 (room:Int),rv, .int .i64 left] 167 (0,0))
 row:Own w 170 3 rv L.length (L.flatMap Qj.cells)
 files: ∀f∈L,U9 w f
 sorted:Y6 L
 fits:Jl (Z5 L)<=room
 roomy:room<=1073741824
 few:L.length<=4096
 left0: -1<=left
 Mq:left<=9223372036854775807
def Qex (r:Nat) (rv:Value) (L:List Qj):Nat->Prop:=λk=>k=r\/rv.ownBlock=some k\/ ∃f∈L,f.val.ownBlock=some k
def Di (w:World) (r:Nat) (s:Qu) (G:Nat->Prop):Prop:=
 ∃rv L,RC w r s.room (leftOf s.Zg) rv L/\(Z5 L).Perm s.files/\(∀k,Qex r rv L k->G k)/\ ∀k,G k->k<w.heap.size
section
variable {w w':World} {r room:Nat} {left:Int} {rv:Value} {L:List Qj}
theorem Ia (L:List Qj):(Z5 L).map (·.1)=L.map (·.name):=by simp [Z5,Qj.pair,List.map_map,Function.comp_def]
theorem Y6.keys (h:Y6 L):((Z5 L).map (·.1)).Nodup:=by
 rw [Ia];exact List.pairwise_map.2 (h.imp λhlt e=>by rw [e] at hlt;exact J5 _ hlt)
theorem U9.keep {S:Nat->Prop} {f:Qj} (h:U9 w f) (hk:Kp S w w') (hS: ∀g,f.val.ownBlock=some g-> ¬S g):U9 w' f:=⟨h.1.keep hk hS,h.2⟩
theorem RC.keep {S:Nat->Prop} (h:RC w r room left rv L) (hk:Kp S w w') (hS: ∀k,Qex r rv L k-> ¬S k):RC w' r room left rv L:=
 {h with
  cell:=hk.get h.cell (hS r (.inl rfl))
  row:=h.row.keep hk λg hg=>hS g (.inr (.inl hg))
  files:=λf hf=>(h.files f hf).keep hk λg hg=>hS g (.inr (.inr ⟨f,hf,hg⟩))}
theorem RC.Q5 (h:RC w r room left rv L) (hk:Kp No w w'):RC w' r room left rv L:=h.keep hk λ_ _ x=>x
theorem RC.lt (h:RC w r room left rv L): ∀k,Qex r rv L k->k<w.heap.size:=by
 rintro k (rfl|hk|⟨f,hf,hk⟩)
 ·exact Q3 h.cell
 ·exact h.row.lt k hk
 ·exact (h.files f hf).1.lt k hk
theorem Di.keep {S G:Nat->Prop} {s:Qu} (h:Di w r s G) (hk:Kp S w w') (hS: ∀k,G k-> ¬S k):Di w' r s G:=by
 obtain ⟨rv,L,h1,h2,h3,h4⟩:=h;exact ⟨rv,L,h1.keep hk (λk hf=>hS k (h3 k hf)),h2,h3,λk hf=>hk.lt (h4 k hf)⟩
theorem Di.Q5 {G:Nat->Prop} {s:Qu} (h:Di w r s G) (hk:Kp No w w'):Di w' r s G:=h.keep hk λ_ _ x=>x
theorem RC.row_ne (h:RC w r room left rv L) {g:Nat} (hg:rv.ownBlock=some g):g≠r:=by
 obtain ⟨cur,hc⟩:=h.row.type g hg;exact Q7 hc h.cell (by decide)
theorem RC.Q26 (h:RC w r room left rv L) {f:Qj} (hf:f∈L) {g:Nat} (hg:f.val.ownBlock=some g):g≠r/\rv.ownBlock≠some g:=by
 obtain ⟨cur,hc⟩:=(h.files f hf).1.type g hg;refine ⟨Q7 hc h.cell (by decide),λe=>?_⟩;obtain ⟨cur',hc'⟩:=h.row.type g e;exact Q7 hc hc' (by decide) rfl
theorem RC.L4 (h:RC w r room left rv L) (left':Int) (h0: -1<=left') (h1:left'<=9223372036854775807) (hk:Kp (One r) w w')
  (hc:w'.heap[r]?=some (.cells #[.int .i64 (room:Int),rv, .int .i64 left'] 167 (0,0))):RC w' r room left' rv L:=
 {h with
  cell:=hc
  row:=h.row.keep hk λ_ hg e=>h.row_ne hg e
  files:=λf hf=>(h.files f hf).keep hk λ_ hg e=>(h.Q26 hf hg).1 e
  left0:=h0
  Mq:=h1}
inductive Q7l (L:List Qj) (k:ByteArray):Nat->Bool->Prop
 |is (L1:List Qj) (f:Qj) (L2:List Qj) (hL:L=L1++f::L2) (hk:f.name=k):Q7l L k L1.length true
 |no (L1 L2:List Qj) (hL:L=L1++L2) (h1: ∀f∈L1,Ug f.name k) (h2: ∀f∈L2,Ug k f.name):Q7l L k L1.length false
theorem Qmp {i:Nat} (hi:i<L.length) {k:ByteArray} (hk:L[i].name=k):Q7l L k i true:=by
 have e:L=L.take i++L[i]::L.drop (i+1):=by
  rw [<-List.drop_eq_getElem_cons hi,List.take_append_drop]
 have h:=Q7l.is (k:=k) (L.take i) L[i] (L.drop (i+1)) e hk;rwa [List.length_take,Nat.min_eq_left (by omega)] at h
theorem Qap (hs:Y6 L) {i:Nat} (hi:i<=L.length) {k:ByteArray} (h1: ∀f∈L.take i,Ug f.name k) (h2: ∀h:i<L.length,Ug k L[i].name):Q7l L k i false:=by
 have h:=Q7l.no (k:=k) (L.take i) (L.drop i) (List.take_append_drop i L).symm h1 (λf hf=>by
  by_cases hl:i<L.length
  ·rw [List.drop_eq_getElem_cons hl] at hf;rcases List.mem_cons.1 hf with rfl|hf
   ·exact h2 hl
   ·refine U5 (h2 hl) ?_
    have hp:(L[i]::L.drop (i+1)).Pairwise λf g=>Ug f.name g.name:=by
     rw [<-List.drop_eq_getElem_cons hl];exact List.Pairwise.sublist (List.drop_sublist _ _) hs
    exact (List.pairwise_cons.1 hp).1 f hf
  ·rw [List.drop_eq_nil_of_le (by omega)] at hf;cases hf)
 rwa [List.length_take,Nat.min_eq_left hi] at h
theorem Q7w (hs:Y6 L) {L1 L2:List Qj} {f:Qj} (hL:L=L1++f::L2):Qo (Z5 L) f.name=some ⟨f.data,f.lasts⟩:=
 Xj hs.keys (by rw [hL];simp [Z5,Qj.pair])
theorem Q7x {L1 L2:List Qj} {k:ByteArray} (h1: ∀f∈L1,Ug f.name k) (h2: ∀f∈L2,Ug k f.name):Qo (Z5 (L1++L2)) k=none:=Ya (by
 rw [Ia,List.mem_map];rintro ⟨f,hf,rfl⟩;rcases List.mem_append.1 hf with hf|hf
 ·exact J5 _ (h1 f hf)
 ·exact J5 _ (h2 f hf))
theorem sorted_put {L1 L2:List Qj} (hs:Y6 (L1++L2)) {f:Qj} (h1: ∀g∈L1,Ug g.name f.name) (h2: ∀g∈L2,Ug f.name g.name):Y6 (L1++f::L2):=by
 unfold Y6 at hs⊢;rw [List.pairwise_append] at hs⊢;refine ⟨hs.1,List.pairwise_cons.2 ⟨h2,hs.2.1⟩,λa ha b hb=>?_⟩;rcases List.mem_cons.1 hb with rfl|hb
 ·exact h1 a ha
 ·exact hs.2.2 a ha b hb
theorem Q6a {L1 L2:List Qj} {f g:Qj} (hs:Y6 (L1++f::L2)) (hn:g.name=f.name):Y6 (L1++g::L2):=by
 unfold Y6 at hs⊢;rw [List.pairwise_append,List.pairwise_cons] at hs⊢;rw [hn];refine ⟨hs.1,hs.2.1,λa ha b hb=>?_⟩;rcases List.mem_cons.1 hb with rfl|hb
 ·rw [hn];exact hs.2.2 a ha f (List.mem_cons_self ..)
 ·exact hs.2.2 a ha b (List.mem_cons_of_mem _ hb)
def Qf1 (w:World) (r:Nat) (G:Nat->Prop) (q:Int×Qu) (e:Ending) (w':World):Prop:=
 e= .returned (.int .i64 q.1)/\ ∃G',Di w' r q.2 G'/\Qv G G' w/\Kp G w w'
end
theorem Ii (w:World) (r room:Nat) (left:Int) (rv:Value) (L:List Qj) (h:RC w r room left rv L) (k:ByteArray):
  Calls Tryz.prog 219 #[.pointer (some ⟨r,0,none⟩), .string k] w λe w'=> ∃(i:Nat) (b:Bool),e= .returned (.tuple #[.int .i64 (i:Int), .bool b])/\Q7l L k i b/\Kp No w w':=by
 obtain ⟨ra,Y5,rfl,hrc,hrd⟩:=h.row.rd;have Lj:=zz (show ∀W,Kp No w W->W.cell? ⟨r,1,none⟩=some (.slice ra L.length Y5)/\r<W.heap.size from λW hW=>⟨by rw [Q0 (hW.get h.cell λx=>x)];rfl,Q3 (hW.get h.cell λx=>x)⟩);have M8:=zz hrd;have HS:=zz h.sorted;have hfew:=h.few;clear h hrd;go_enter Tryz.func219,Tryz.ntmps219
 go_wp2_with fail
 rename World=>w0;go_loopw [6] (λi wr=> ∃j:Nat,j<=L.length/\i= .int .i64 (j:Int)/\Hid (∀f∈L.take j,Ug f.name k)/\Hid (Kp No w0 wr)) (λi _=>L.length-(intOf i).toNat)
 case atStart=>exact ⟨0,Nat.zero_le _,rfl,zz (by simp),zz zK⟩
 case round=>
  obtain ⟨j,hj,rfl,HL,Dp⟩:=hrel;obtain ⟨c1,hrl⟩:=Lj.out _ Dp.out;by_cases hlt:j<L.length
  ·obtain ⟨g,off,rfl,l0⟩:=Ye (f:=Qj.cells) (c:=3) Qj.Y9 (by decide) M8.out hlt;have d0:=l0 _ Dp.out 0 _ rfl;rw [Nat.add_zero] at d0;have hgl:g<wr.heap.size:=World.block_lt_of_cell? wr _ d0;have HT:=zz (List.take_succ_eq_append_getElem hlt);rcases Cd L[j].name k with hn|hn|hn
   ·have f1:=Q5c hn
    have HL2:Hid (∀f∈L.take (j+1),Ug f.name k):=zz λf hf=>by
     rw [HT.out,List.mem_append,List.mem_singleton] at hf;rcases hf with hf|rfl
     ·exact HL.out f hf
     ·exact hn
    clear l0 hn;go_wp2_with fail
    go_roundw
    case rel=>exact ⟨j+1,by omega,by go_num,HL2,Dp⟩
    case measure=>simp [intOf];omega
   ·have f1:=Cb (by rw [hn];exact J5 k: ¬Ug L[j].name k);have f2:(L[j].name.toList==k.toList)=true:=by rw [hn];exact beq_self_eq_true _
    have Ls:=zz (Qmp hlt hn);clear l0 hn;go_wp2_with fail
    refine zE [0,0,0,0,0,1,1,0,0,0,0,0,1,0,0,0,1,0,0,0,0,0] [0,1,2,3,4,5,6,7,8,9,10,11,13,17,20,12,14,15,16,18,19,21] ?_;repeat (first|refine zA ?_|refine zB ?_|refine zC ?_)
    refine Q6 (λnq=>?_);have Qz:=zz (Dp.out.drewN nq);go_wp2_with fail
    go_ret2
    exact ⟨j,true,rfl,Ls.out,Qz.out⟩
   ·have f1:=Cb (λh=>J5 _ (U5 h hn): ¬Ug L[j].name k)
    have f2:(L[j].name.toList==k.toList)=false:=by
     rw [<-beq_toListBytes];exact beq_false_of_ne (λe=>by rw [e] at hn;exact J5 _ hn)
    have Ls:=zz (Qap HS.out hj HL.out (λ_=>hn));clear l0 hn;go_wp2_with fail
    refine zE [0,0,0,0,0,1,1,0,0,0,0,0,1,0,0,0,1,0,0,0,0,0] [0,1,2,3,4,5,6,7,8,9,10,11,13,17,20,12,14,15,16,18,19,21] ?_;repeat (first|refine zA ?_|refine zB ?_|refine zC ?_)
    refine Q6 (λnq=>?_);have Qz:=zz (Dp.out.drewN nq);go_wp2_with fail
    go_ret2
    exact ⟨j,false,rfl,Ls.out,Qz.out⟩
  ·obtain rfl:j=L.length:=by omega
   have Ls:=zz (Qap HS.out hj HL.out (λh=>absurd h hlt));clear hlt;go_wp2_with fail
   refine zE [0,0,0,0,0,1,1,0,0,0,0,0,1,0,0,0,1,0,0,0,0,0] [0,1,2,3,4,5,6,7,8,9,10,11,13,17,20,12,14,15,16,18,19,21] ?_;repeat (first|refine zA ?_|refine zB ?_|refine zC ?_)
   refine Q6 (λnq=>?_);have Qz:=zz (Dp.out.drewN nq);go_wp2_with fail
   go_ret2
   exact ⟨L.length,false,rfl,Ls.out,Qz.out⟩
theorem Qxa: ∀x:Fin 256,x.val|||128=x.val % 128+128:=by decide+kernel
theorem Q32 (u:Nat):bits .or .u8 ((u:Int) % 256) 128=((u % 128+128:Nat):Int):=by
 have e:((u:Int) % 256)=((u % 256:Nat):Int):=(Int.natCast_emod u 256).symm;rw [e,show (128:Int)=((128:Nat):Int) from rfl,Q9o (k:= .u8) rfl (show u % 256<2^8 by omega) (by decide),Qxa ⟨u % 256,by omega⟩];congr 1
 show u % 256 % 128+128=_
 omega
theorem E0 {u:Nat} (h:128<=u):Ql u=UInt8.ofNat (u % 128+128)::Ql (u/128):=Q1f (by omega)
theorem Me (u:Nat):(UInt8.ofNat (u % 128+128)).toNat=u % 128+128:=by rw [Lb];omega
theorem Un (w W:World) (v:Value) (xs:List UInt8) (x:UInt8) (hO:Mer.Own W 5 1 v xs.length (u8s xs)) (hf: ∀g,v.ownBlock=some g->w.heap.size<=g) (hk:Kp No w W) (hl:xs.length<=140737488355000):
  ∃a' c' W',(Builtin.append_ #[42,42] 42 #[v, .slice (some ⟨W.heap.size,0,none⟩) 1 1]).run Tryz.prog (W.alloc (.cells #[.int .u8 (x.toNat:Int)] 5))= .ok (.slice a' (xs.length+1) c') W'/\Mer.Own W' 5 1 (.slice a' (xs.length+1) c') (xs.length+1) (u8s (xs++[x]))/\
   (∀g,(Value.slice a' (xs.length+1) c').ownBlock=some g->w.heap.size<=g)/\Kp No w W':=by
 have hk1:Kp No W (W.alloc (.cells #[.int .u8 (x.toNat:Int)] 5)):=zK.alloc _;obtain ⟨a',c',W',h1,h2,h3,h4⟩:=Zq w (W.alloc (.cells #[.int .u8 (x.toNat:Int)] 5)) v xs [x] (hO.keep hk1 λ_ _ x=>x) hf (hk.trans_same hk1) (some ⟨W.heap.size,0,none⟩) 1 (Rd.const W 5 (0,0) _ _ rfl) (by simp only [List.length_singleton];omega);rw [List.length_append,List.length_singleton] at h1 h2 h3;exact ⟨a',c',W',h1,h2,h3,h4⟩
theorem Mu {n:Nat} (h:n<=1000000000000):(Ql n).length<=6:=Ju 5 n (Nat.lt_of_le_of_lt h (by decide))
theorem Qaq (u:Nat) (h:u<=1000000000000): ∃v:Nat,v<128/\v=u % 128/\bits .and .u64 (u:Int) 127=(v:Int)/\(v:Int) % 256=(v:Int)/\bits .or .u8 (v:Int) 128=((UInt8.ofNat (u % 128+128)).toNat:Int)/\ ∃z:Nat,z=u/128/\(u:Int)/128=(z:Int):=by
 refine ⟨u % 128,Nat.mod_lt _ (by decide),rfl,?_,Int.emod_eq_of_lt (by omega) (by omega),?_,u/128,rfl,(Int.natCast_ediv u 128).symm⟩
 ·have:=Cu (k:= .u64) rfl (a:=u) (b:=127) (show u<2^64 by omega) (by decide);rw [show (127:Nat)=2^7-1 from rfl,Nat.and_two_pow_sub_one_eq_mod u 7] at this;exact this
 ·rw [Me];have:=Q32 (u % 128);rw [Int.emod_eq_of_lt (by omega) (by omega)] at this;rw [this];congr 1
  omega
def Q40 (w wr:World) (n u:Nat) (a:Option Addr) (k c:Nat):Prop:=
 ∃xs:List UInt8,xs.length=k/\Ql n=xs++Ql u/\Mer.Own wr 5 1 (.slice a k c) k (u8s xs)/\(∀g,(Value.slice a k c).ownBlock=some g->w.heap.size<=g)/\Kp No w wr
theorem Aa (n:Nat) (hn:n<=1000000000000) (w:World):Calls Tryz.prog 69 #[.int .i64 (n:Int)] w (Q9m w (Ql n)):=by
 have d1:decide ((4611686018427387904:Int)<(n:Int))=false:=by rw [decide_eq_false_iff_not];omega
 by_cases h0:0<n
 ·have d2:decide ((0:Int)<(n:Int))=true:=by rw [decide_eq_true_iff];omega
  have hmod:(n:Int) % 18446744073709551616=(n:Int):=Int.emod_eq_of_lt (by omega) (by omega);go_enter Tryz.func69,Tryz.ntmps69
  go_wp2_with fail
  rename World=>w0;go_loopw [3,4] (λs3 s4 wr=> ∃(u:Nat) (a:Option Addr) (k c:Nat),u<=1000000000000/\s3= .int .u64 (u:Int)/\s4= .slice a k c/\Hid (Q40 w0 wr n u a k c)) (λs3 _ _=>(intOf s3).toNat)
  case atStart=>exact ⟨n,none,0,0,by omega,rfl,rfl,zz ⟨[],rfl,rfl,Mer.Own.nil _ _ _,λg h=>(by cases h),Kp.refl _ _⟩⟩
  case round=>
   obtain ⟨u,a,k,c,hu,rfl,rfl,HR⟩:=hrel;obtain ⟨xs,hk,hnum,hown,hfr,hkp⟩:=HR.out
   have hkl:k<=6:=by
    have h1:=Mu hn;rw [hnum,List.length_append] at h1;omega
   by_cases hlt:128<=u
   ·have e1:decide ((128:Int)<=(u:Int))=true:=by rw [decide_eq_true_iff];omega
    have e2:decide (128<=u)=true:=decide_eq_true hlt;obtain ⟨v,hv1,hv2,b1,b2,b3,z,hz,b4⟩:=Qaq u hu;obtain ⟨a',c',w',hrun,ho,hf,hk'⟩:=Un w0 wr (.slice a k c) xs (UInt8.ofNat (u % 128+128)) (by rw [hk];exact hown) hfr hkp (by omega);rw [hk] at hrun ho hf;have hnew:Q40 w0 w' n z a' (k+1) c':=⟨xs++[UInt8.ofNat (u % 128+128)],by rw [List.length_append,hk];rfl,by rw [hnum,E0 hlt,hz,List.append_assoc];rfl,ho,hf,hk'⟩;obtain ⟨x,hx⟩: ∃x:Nat,x=(UInt8.ofNat (u % 128+128)).toNat:=⟨_,rfl⟩;rw [<-hx] at hrun b3;have HX:=zz hrun;have Yz:=zz hnew;have hzu:z<u:=by omega
    have HZ:=zz hz;clear hv2 hz hnum hown hfr hkp hrun ho hf hk' hnew hx hk HR;go_wp2_with (at_builtin;refine wpList_append_run rfl rfl rfl rfl HX.out ?_)
    go_roundw
    case rel=>exact ⟨z,a',k+1,c',by omega,rfl,rfl,Yz⟩
    case measure=>simp [intOf];omega
   ·have e1:decide ((128:Int)<=(u:Int))=false:=by rw [decide_eq_false_iff_not];omega
    have e2:decide (128<=u)=false:=by rw [decide_eq_false_iff_not];omega
    have hm:(u:Int) % 256=(u:Int):=Int.emod_eq_of_lt (by omega) (by omega);obtain ⟨a',c',w',hrun,ho,hf,hk'⟩:=Un w0 wr (.slice a k c) xs (UInt8.ofNat u) (by rw [hk];exact hown) hfr hkp (by omega);rw [hk] at hrun ho hf;rw [show (UInt8.ofNat u).toNat=u by rw [Lb];omega] at hrun;have hl:Ql n=xs++[UInt8.ofNat u]:=by rw [hnum,Xe (by omega)]
    have hll:(Ql n).length=k+1:=by rw [hl,List.length_append,hk];rfl
    have hfin:Q9m w0 (Ql n) (.returned (.slice a' (k+1) c')) w':=⟨a',c',by rw [hll],by rw [hll,hl];exact ho,by rw [hll];exact hf,hk'⟩;have HX:=zz hrun;have Zv:=zz hfin;clear hnum hown hfr hkp hrun ho hf hk' hfin hk hl hll HR;go_wp2_with (at_builtin;refine wpList_append_run rfl rfl rfl rfl HX.out ?_)
    go_ret
    exact Zv.out
 ·have d2:decide ((0:Int)<(n:Int))=false:=by rw [decide_eq_false_iff_not];omega
  have Qzb:=zz (show n=0 by omega);go_enter Tryz.func69,Tryz.ntmps69
  go_wp2_with fail
  rename World=>w0;go_loopw [3,4] (λs3 s4 wr=> ∃(u:Nat) (a:Option Addr) (k c:Nat),u<=1000000000000/\s3= .int .u64 (u:Int)/\s4= .slice a k c/\Hid (Q40 w0 wr n u a k c)) (λs3 _ _=>(intOf s3).toNat)
  case atStart=>exact ⟨0,none,0,0,by omega,rfl,rfl,zz ⟨[],rfl,by rw [Qzb.out];rfl,Mer.Own.nil _ _ _,λg h=>(by cases h),Kp.refl _ _⟩⟩
  case round=>
   obtain ⟨u,a,k,c,hu,rfl,rfl,HR⟩:=hrel;obtain ⟨xs,hk,hnum,hown,hfr,hkp⟩:=HR.out
   have hkl:k<=6:=by
    have h1:=Mu hn;rw [hnum,List.length_append] at h1;omega
   by_cases hlt:128<=u
   ·have e1:decide ((128:Int)<=(u:Int))=true:=by rw [decide_eq_true_iff];omega
    have e2:decide (128<=u)=true:=decide_eq_true hlt;obtain ⟨v,hv1,hv2,b1,b2,b3,z,hz,b4⟩:=Qaq u hu;obtain ⟨a',c',w',hrun,ho,hf,hk'⟩:=Un w0 wr (.slice a k c) xs (UInt8.ofNat (u % 128+128)) (by rw [hk];exact hown) hfr hkp (by omega);rw [hk] at hrun ho hf;have hnew:Q40 w0 w' n z a' (k+1) c':=⟨xs++[UInt8.ofNat (u % 128+128)],by rw [List.length_append,hk];rfl,by rw [hnum,E0 hlt,hz,List.append_assoc];rfl,ho,hf,hk'⟩;obtain ⟨x,hx⟩: ∃x:Nat,x=(UInt8.ofNat (u % 128+128)).toNat:=⟨_,rfl⟩;rw [<-hx] at hrun b3;have HX:=zz hrun;have Yz:=zz hnew;have hzu:z<u:=by omega
    have HZ:=zz hz;clear hv2 hz hnum hown hfr hkp hrun ho hf hk' hnew hx hk HR;go_wp2_with (at_builtin;refine wpList_append_run rfl rfl rfl rfl HX.out ?_)
    go_roundw
    case rel=>exact ⟨z,a',k+1,c',by omega,rfl,rfl,Yz⟩
    case measure=>simp [intOf];omega
   ·have e1:decide ((128:Int)<=(u:Int))=false:=by rw [decide_eq_false_iff_not];omega
    have e2:decide (128<=u)=false:=by rw [decide_eq_false_iff_not];omega
    have hm:(u:Int) % 256=(u:Int):=Int.emod_eq_of_lt (by omega) (by omega);obtain ⟨a',c',w',hrun,ho,hf,hk'⟩:=Un w0 wr (.slice a k c) xs (UInt8.ofNat u) (by rw [hk];exact hown) hfr hkp (by omega);rw [hk] at hrun ho hf;rw [show (UInt8.ofNat u).toNat=u by rw [Lb];omega] at hrun;have hl:Ql n=xs++[UInt8.ofNat u]:=by rw [hnum,Xe (by omega)]
    have hll:(Ql n).length=k+1:=by rw [hl,List.length_append,hk];rfl
    have hfin:Q9m w0 (Ql n) (.returned (.slice a' (k+1) c')) w':=⟨a',c',by rw [hll],by rw [hll,hl];exact ho,by rw [hll];exact hf,hk'⟩;have HX:=zz hrun;have Zv:=zz hfin;clear hnum hown hfr hkp hrun ho hf hk' hfin hk hl hll HR;go_wp2_with (at_builtin;refine wpList_append_run rfl rfl rfl rfl HX.out ?_)
    go_ret
    exact Zv.out
theorem Q1h {S:Nat->Prop} (w W:World) (v:Value) (xs:List UInt8) (x:UInt8) (hO:Mer.Own W 5 1 v xs.length (u8s xs)) (hf: ∀g,v.ownBlock=some g->w.heap.size<=g) (hk:Kp S w W) (hl:xs.length<=140737488355000):
  ∃a' c' W',(Builtin.append_ #[42,42] 42 #[v, .slice (some ⟨W.heap.size,0,none⟩) 1 1]).run Tryz.prog (W.alloc (.cells #[.int .u8 (x.toNat:Int)] 5))= .ok (.slice a' (xs.length+1) c') W'/\Mer.Own W' 5 1 (.slice a' (xs.length+1) c') (xs.length+1) (u8s (xs++[x]))/\
   (∀g,(Value.slice a' (xs.length+1) c').ownBlock=some g->w.heap.size<=g)/\Kp S w W'/\ ∀b o,W.heap[b]?=some o->b<w.heap.size->W'.heap[b]?=some o:=by
 have hk1:Kp No W (W.alloc (.cells #[.int .u8 (x.toNat:Int)] 5)):=zK.alloc _;obtain ⟨a',c',W',h1,h2,h3,h4,h5⟩:=Q5r (S:=S) w (W.alloc (.cells #[.int .u8 (x.toNat:Int)] 5)) v xs [x] (hO.keep hk1 λ_ _ x=>x) hf (hk.alloc _) (some ⟨W.heap.size,0,none⟩) 1 (Rd.const W 5 (0,0) _ _ rfl) (by simp only [List.length_singleton];omega);rw [List.length_append,List.length_singleton] at h1 h2 h3;exact ⟨a',c',W',h1,h2,h3,h4,λb o hb hlt=>h5.get (J6 hb _) (λh=>by have:=hf b h;omega)⟩
def Qud (w wr:World) (b n u:Nat) (a:Option Addr) (k c:Nat):Prop:=
 ∃xs:List UInt8,xs.length=k/\Ql n=xs++Ql u/\Mer.Own wr 5 1 (.slice a k c) k (u8s xs)/\(∀g,(Value.slice a k c).ownBlock=some g->w.heap.size<=g)/\Kp (Mer.One b) w wr/\wr.heap[b]?=some (.cells #[.slice a k c] 121 (0,0))
def J4e (w:World) (b:Nat) (l:List UInt8) (w':World):Prop:=
 ∃a c,w'.heap[b]?=some (.cells #[.slice a l.length c] 121 (0,0))/\Mer.Own w' 5 1 (.slice a l.length c) l.length (u8s l)/\(∀g,(Value.slice a l.length c).ownBlock=some g->w.heap.size<=g)/\Kp (Mer.One b) w w'
def Quc (w wr:World) (b n:Nat):Nat->Prop
 |0=>w=wr
 |_+1=>J4e w b (Ql n) wr
theorem Qpl (w:World) (b g c n:Nat) (hn:n<=1000000000000) (hb:w.heap[b]?=some (.cells #[.slice none 0 0] 121 (0,0))) (hg:w.cell? ⟨g,0,none⟩=some (.int .i64 (n:Int))):
  Calls Tryz.prog 58 #[.pointer (some ⟨b,0,none⟩), .slice (some ⟨g,0,none⟩) 1 c] w λe w'=>e= .returned (.tuple #[])/\J4e w b (Ql n) w':=by
 have hbl:=Q3 hb;have HB:=zz hb;have HN:=zz hn;have d1:decide ((n:Int)<4611686018427387904)=true:=by rw [decide_eq_true_iff];omega
 have d3:min (n:Int) 4611686018427387904=(n:Int):=by omega
 have d4:max 0 (n:Int)=(n:Int):=by omega
 have hmod:(n:Int) % 18446744073709551616=(n:Int):=Int.emod_eq_of_lt (by omega) (by omega);clear hb hn;go_enter Tryz.func58,Tryz.ntmps58
 go_wp2_with fail
 rename World=>w0;go_loopw [11] (λi wr=> ∃j:Nat,j<=1/\i= .int .i64 (j:Int)/\Hid (Quc w0 wr b n j)) (λi _=>1-(intOf i).toNat)
 case atStart=>exact ⟨0,by omega,rfl,zz rfl⟩
 case round=>
  obtain ⟨j,hj,rfl,HJ⟩:=hrel;rcases (show j=0\/j=1 by omega) with rfl|rfl
  ·have hj0:=HJ.out;obtain rfl:w0=wr:=hj0;clear HJ;go_upto_block 2 with fail
   rw [show ((0:Nat):Int)=0 from rfl];go_wp2_with fail
   go_loopw [6] (λs6 wr=> ∃(u:Nat) (a:Option Addr) (k c:Nat),u<=1000000000000/\s6= .int .u64 (u:Int)/\Hid (Qud w0 wr b n u a k c)) (λs6 _=>(intOf s6).toNat)
   case atStart=>exact ⟨n,none,0,0,HN.out,rfl,zz ⟨[],rfl,rfl,Mer.Own.nil _ _ _,λg h=>(by cases h),Kp.refl _ _,HB.out⟩⟩
   case round=>
    obtain ⟨u,a,k,c',hu,rfl,HR⟩:=hrel;obtain ⟨xs,hk,hnum,hown,hfr,hkp,hbk⟩:=HR.out
    have hkl:k<=6:=by
     have h1:=Mu HN.out;rw [hnum,List.length_append] at h1;omega
    have c0:=Q0 hbk 0;simp at c0
    clear HR d1 d3 d4 hmod hg;by_cases hlt:128<=u
    ·have e1:decide ((128:Int)<=(u:Int))=true:=by rw [decide_eq_true_iff];omega
     have e2:decide (128<=u)=true:=decide_eq_true hlt;obtain ⟨a',c2,w',hrun,ho,hf,hk',hkeep⟩:=Q1h (S:=Mer.One b) w0 wr (.slice a k c') xs (UInt8.ofNat (u % 128+128)) (by rw [hk];exact hown) hfr hkp (by omega);rw [hk] at hrun ho hf;have hb':=hkeep b _ hbk hbl;have cw:=Q0 hb' 0;simp at cw
     have fw:=Qc hb' 0
     have Qwd:Mer.Own (w'.setCell ⟨b,0,none⟩ (.slice a' (k+1) c2)) 5 1 (.slice a' (k+1) c2) (k+1) (u8s (xs++[UInt8.ofNat (u % 128+128)])):=
      ho.keep ((Kp.refl (Mer.One b) w').setCell (p:=⟨b,0,none⟩) (.inl rfl) _) (λq hq he=>by have:=hf q hq;rw [show q=b from he] at this;omega)
     have Qvv:Kp (Mer.One b) w0 (w'.setCell ⟨b,0,none⟩ (.slice a' (k+1) c2)):=hk'.setCell (p:=⟨b,0,none⟩) (.inl rfl) _;have hbS:(w'.setCell ⟨b,0,none⟩ (.slice a' (k+1) c2)).heap[b]?=some (.cells #[.slice a' (k+1) c2] 121 (0,0)):=Qh hb' 0 _;have b3:=Q32 u;rw [<-Me u] at b3;obtain ⟨z,hz,b4⟩: ∃z:Nat,z=u/128/\(u:Int)/128=(z:Int):=⟨u/128,rfl,(Int.natCast_ediv u 128).symm⟩;have hnew:Qud w0 (w'.setCell ⟨b,0,none⟩ (.slice a' (k+1) c2)) b n z a' (k+1) c2:=⟨xs++[UInt8.ofNat (u % 128+128)],by rw [List.length_append,hk];rfl,by rw [hnum,E0 hlt,hz,List.append_assoc];rfl,Qwd,hf,Qvv,hbS⟩;obtain ⟨x,hx⟩: ∃x:Nat,x=(UInt8.ofNat (u % 128+128)).toNat:=⟨_,rfl⟩;rw [<-hx] at hrun b3;have HX:=zz hrun;have Yz:=zz hnew;have hzu:z<u:=by omega
     clear hz hnum hown hfr hkp hbk hrun ho hf hk' hkeep hb' Qwd Qvv hbS hnew hx hk;go_wp2_with (at_builtin;refine wpList_append_run rfl rfl rfl rfl HX.out ?_)
     go_roundw
     case rel=>exact ⟨z,a',k+1,c2,by omega,rfl,Yz⟩
     case measure=>simp [intOf];omega
    ·have e1:decide ((128:Int)<=(u:Int))=false:=by rw [decide_eq_false_iff_not];omega
     have e2:decide (128<=u)=false:=by rw [decide_eq_false_iff_not];omega
     have hm:(u:Int) % 256=(u:Int):=Int.emod_eq_of_lt (by omega) (by omega);obtain ⟨a',c2,w',hrun,ho,hf,hk',hkeep⟩:=Q1h (S:=Mer.One b) w0 wr (.slice a k c') xs (UInt8.ofNat u) (by rw [hk];exact hown) hfr hkp (by omega);rw [hk] at hrun ho hf;have hb':=hkeep b _ hbk hbl;have cw:=Q0 hb' 0;simp at cw
     have fw:=Qc hb' 0
     have Qwd:Mer.Own (w'.setCell ⟨b,0,none⟩ (.slice a' (k+1) c2)) 5 1 (.slice a' (k+1) c2) (k+1) (u8s (xs++[UInt8.ofNat u])):=
      ho.keep ((Kp.refl (Mer.One b) w').setCell (p:=⟨b,0,none⟩) (.inl rfl) _) (λq hq he=>by have:=hf q hq;rw [show q=b from he] at this;omega)
     have Qvv:Kp (Mer.One b) w0 (w'.setCell ⟨b,0,none⟩ (.slice a' (k+1) c2)):=hk'.setCell (p:=⟨b,0,none⟩) (.inl rfl) _;have hbS:(w'.setCell ⟨b,0,none⟩ (.slice a' (k+1) c2)).heap[b]?=some (.cells #[.slice a' (k+1) c2] 121 (0,0)):=Qh hb' 0 _;rw [show (UInt8.ofNat u).toNat=u by rw [Lb];omega] at hrun;have hl:Ql n=xs++[UInt8.ofNat u]:=by rw [hnum,Xe (by omega)]
     have hll:(Ql n).length=k+1:=by rw [hl,List.length_append,hk];rfl
     have hfin:Quc w0 (w'.setCell ⟨b,0,none⟩ (.slice a' (k+1) c2)) b n 1:=⟨a',c2,by rw [hll];exact hbS,by rw [hll,hl];exact Qwd,by rw [hll];exact hf,Qvv⟩;have HX:=zz hrun;have Zv:=zz hfin;clear hnum hown hfr hkp hbk hrun ho hf hk' hkeep hb' Qwd Qvv hbS hfin hk hl hll;go_wp2_with (at_builtin;refine wpList_append_run rfl rfl rfl rfl HX.out ?_)
     go_roundw
     case rel=>exact ⟨1,by omega,rfl,Zv⟩
     case measure=>simp [intOf]
  ·go_wp2_with fail
   exact bodyPost_end (results_none rfl _ _ _) rfl ⟨rfl,HJ.out⟩
def Vv (x y:Int):Int:=if x<y then -1 else if y<x then 1 else 0
def Js (m c n d:Int):Int:=if m<n\/(m=n/\c<d) then -1 else if m=n/\c=d then 0 else 1
theorem Qkj (m c n d:Int):Js m c n d=if Vv m n≠0 then Vv m n else Vv c d:=by
 unfold Js Vv;repeat' split
 all_goals omega
theorem Fw (x:Int) (w:World):Calls Tryz.prog 201 #[.int .i64 x] w λe w'=>e= .returned (.bool false)/\w=w':=by
 go_enter Tryz.func201,Tryz.ntmps201
 go_wp2_with fail
 go_ret
 exact ⟨by simp,rfl⟩
theorem Ci (x y:Int) (w:World):Calls Tryz.prog 128 #[.int .i64 x, .int .i64 y] w λe w'=>e= .returned (.int .i64 (Vv x y))/\w=w':=by
 have hv:Vv x y=if x<y then -1 else if y<x then 1 else 0:=rfl
 obtain ⟨r,hr⟩: ∃r,r=Vv x y:=⟨_,rfl⟩;rw [<-hr] at hv⊢;have HV:=zz hv;clear hv hr;rcases Int.lt_trichotomy x y with h|h|h
 ·go_enter Tryz.func128,Tryz.ntmps128
  go_wp2_with fail
  refine (Fw _ _).mono ?_;rintro e w' ⟨rfl,rfl⟩;go_wp2_with fail
  refine (Fw _ _).mono ?_;rintro e w' ⟨rfl,rfl⟩;go_wp2_with fail
  go_ret
  exact ⟨by rw [HV.out,if_pos h];rfl,rfl⟩
 ·subst h;go_enter Tryz.func128,Tryz.ntmps128
  go_wp2_with fail
  refine (Fw _ _).mono ?_;rintro e w' ⟨rfl,rfl⟩;go_wp2_with fail
  refine (Fw _ _).mono ?_;rintro e w' ⟨rfl,rfl⟩;go_wp2_with fail
  go_ret
  exact ⟨by rw [HV.out,if_neg (by omega),if_neg (by omega)];rfl,rfl⟩
 ·go_enter Tryz.func128,Tryz.ntmps128
  go_wp2_with fail
  refine (Fw _ _).mono ?_;rintro e w' ⟨rfl,rfl⟩;go_wp2_with fail
  refine (Fw _ _).mono ?_;rintro e w' ⟨rfl,rfl⟩;go_wp2_with fail
  go_ret
  exact ⟨by rw [HV.out,if_neg (by omega),if_pos h];rfl,rfl⟩
theorem Q9l (a b:Int) (w:World) (g cap:Nat) (hg:w.heap[g]?=some (.cells #[.int .i64 a, .int .i64 b] 3 (0,0))):
  Calls Tryz.prog 127 #[.slice (some ⟨g,0,none⟩) 2 cap] w λe w'=>e= .returned (.int .i64 (if a≠0 then a else b))/\w=w':=by
 obtain ⟨r,hr⟩: ∃r,r=if a≠0 then a else b:=⟨_,rfl⟩
 rw [<-hr];have c0:=Q0 hg 0;have c1:=Q0 hg 1;simp at c0 c1
 have HR:=zz hr;clear hr hg;go_enter Tryz.func127,Tryz.ntmps127
 go_wp2_with fail
 go_loop [8] (λi=> ∃k:Nat,k<=2/\i= .int .i64 (k:Int)/\(k=0\/a=0)/\(k<=1\/b=0)) (λi=>2-(intOf i).toNat)
 case atStart=>exact ⟨0,by omega,rfl, .inl rfl, .inl (by omega)⟩
 case round=>
  obtain ⟨k,hk,rfl,h0,h1⟩:=hrel;have hk3:k=0\/k=1\/k=2:=by omega
  have HH:=zz (And.intro h0 h1);clear h0 h1;rcases hk3 with rfl|rfl|rfl
  ·by_cases ha:a=0
   ·subst ha;go_wp2_with fail
    go_round
    case rel=>exact ⟨1,by omega,rfl, .inr trivial, .inl (by omega)⟩
    case measure=>simp [intOf]
   ·have hb:(a !=0)=true:=by rw [bne_iff_ne];exact ha
    have HA:=zz ha;clear ha;go_wp2_with fail
    go_ret
    exact ⟨by rw [HR.out,if_pos HA.out];rfl,rfl⟩
  ·obtain rfl:a=0:=HH.out.1.resolve_left (by omega);by_cases ha:b=0
   ·subst ha;go_wp2_with fail
    go_round
    case rel=>exact ⟨2,by omega,rfl, .inr trivial, .inr trivial⟩
    case measure=>simp [intOf]
   ·have hb:(b !=0)=true:=by rw [bne_iff_ne];exact ha
    clear ha;go_wp2_with fail
    go_ret
    exact ⟨by rw [HR.out,if_neg (by omega)];rfl,rfl⟩
  ·obtain rfl:a=0:=HH.out.1.resolve_left (by omega);obtain rfl:b=0:=HH.out.2.resolve_left (by omega);go_wp2_with fail
   go_ret
   exact ⟨by rw [HR.out,if_neg (by omega)];rfl,rfl⟩
theorem Qhy {P:Program} {f:FuncId} {args:Array Value} {w:World} {v:Value} (c: ∀W:World,Calls P f args W λe w'=>e= .returned v/\W=w') (n:Nat):
  Calls P f args (w.drewN n) λe w'=>e= .returned v/\ ∃m,w'=(w.drewN n).drewN m:=
 (c _).mono λ_ _ ⟨h1,h2⟩=>⟨h1,0,by rw [<-h2];rfl⟩
theorem X7 (m c n d:Int) (w:World):Calls Tryz.prog 72 #[Xo m c,Xo n d] w λe w'=>e= .returned (.int .i64 (Js m c n d))/\Kp No w w':=by
 have hv:=Qkj m c n d;obtain ⟨r,hr⟩: ∃r,r=Js m c n d:=⟨_,rfl⟩;rw [<-hr] at hv⊢;have HV:=zz hv;clear hv hr;go_enter Tryz.func72,Tryz.ntmps72
 go_wp2_with fail
 refine zE [0,1,0,1,1,0,1,0,1,1,2,2,0] [0,2,5,7,1,3,4,6,8,9,10,11,12] ?_;repeat (first|refine zA ?_|refine zB ?_|refine zC ?_)
 refine Ay rfl rfl rfl (λn=>(by go_simp;try rfl)) (Qhy λW=>Ci m n W) (by go_simp;try rfl) ?_;repeat (first|refine zA ?_|refine zB ?_|refine zC ?_)
 refine Ay rfl rfl rfl (λn=>(by go_simp;try rfl)) (Qhy λW=>Ci c d W) (by go_simp;try rfl) ?_;repeat (first|refine zA ?_|refine zB ?_|refine zC ?_)
 refine Q4 rfl rfl (λn1=>?_);go_wp2_with fail
 obtain ⟨W1,hW1⟩: ∃W,W=((w.alloc (.cells #[.int .i64 m, .int .i64 c] 25)).alloc (.cells #[.int .i64 n, .int .i64 d] 25)).drewN n1:=⟨_,rfl⟩;rw [<-hW1];have hk1:Kp No w W1:=by rw [hW1];exact ((zK.alloc _).alloc _).drewN _
 have hs1:W1.heap.size=w.heap.size+1+1:=by rw [hW1];simp
 have hg:=heap_alloc_new W1 (.cells #[.int .i64 (Vv m n), .int .i64 (Vv c d)] 3);rw [hs1] at hg;have hk2:Kp No w (W1.alloc (.cells #[.int .i64 (Vv m n), .int .i64 (Vv c d)] 3)):=hk1.alloc _;have hOr:=λn2=>Q9l (Vv m n) (Vv c d) ((W1.alloc (.cells #[.int .i64 (Vv m n), .int .i64 (Vv c d)] 3)).drewN n2) (w.heap.size+1+1) 2 hg;rw [<-HV.out] at hOr;have HO:=zz hOr;clear hW1 hg hs1 hOr;refine Q4 rfl rfl (λn2=>?_);go_wp2_with fail
 refine (HO.out n2).mono ?_;rintro e w' ⟨rfl,rfl⟩;go_wp2_with fail
 repeat (first|refine zA ?_|refine zB ?_|refine zC ?_)
 refine Q6 (λnq=>?_);go_wp2_with fail
 go_ret
 exact ⟨rfl,(hk2.drewN _).drewN _⟩
abbrev Qd7 (m c o:Int) (v:Value) (g:Bool) (ttl:Int):Value:= .agg #[.int .i64 m, .int .i64 c, .int .i64 o,v, .bool g, .int .i64 ttl]
def Q33 (m c o m' c' o':Int):Int:=if Js m c m' c'≠0 then Js m c m' c' else Vv o o'
def Hr (m c:Int) (gone:Bool) (ttl t1 t2:Int):Bool:=decide (Js m c t1 t2<=0)&&!gone&&(ttl==0||decide (wrap64 (t1-m)<ttl))
theorem Qca (m c o:Int) (v:Value) (g:Bool) (tt:Int) (m' c' o':Int) (v':Value) (g':Bool) (Qrw:Int) (w:World):
  Calls Tryz.prog 191 #[Qd7 m c o v g tt,Qd7 m' c' o' v' g' Qrw] w λe w'=>e= .returned (.int .i64 (Q33 m c o m' c' o'))/\Kp No w w':=by
 obtain ⟨r,hr⟩: ∃r,r=Q33 m c o m' c' o':=⟨_,rfl⟩;rw [<-hr];obtain ⟨W1,hW1⟩: ∃W1,W1=(w.alloc (.cells #[.int .i64 m, .int .i64 c, .int .i64 o,v, .bool g, .int .i64 tt] 44)).alloc (.cells #[.int .i64 m', .int .i64 c', .int .i64 o',v', .bool g', .int .i64 Qrw] 44):=⟨_,rfl⟩;have H1:Kp No w W1:=by rw [hW1];exact (zK.alloc _).alloc _
 have b1:W1.heap[w.heap.size]?=some (.cells #[.int .i64 m, .int .i64 c, .int .i64 o,v, .bool g, .int .i64 tt] 44 (0,0)):=by rw [hW1];exact J6 (heap_alloc_new w _) _
 have b2:W1.heap[w.heap.size+1]?=some (.cells #[.int .i64 m', .int .i64 c', .int .i64 o',v', .bool g', .int .i64 Qrw] 44 (0,0)):=by rw [hW1];exact (congrArg (λk=>((w.alloc _).alloc _).heap[k]?) (by simp)).trans (heap_alloc_new (w.alloc _) _)
 have c0: ∀W,Kp No W1 W->W.cell? ⟨w.heap.size,0,none⟩=some (.int .i64 m):=λW h=>by rw [Q0 (h.get b1 λx=>x)];rfl
 have c1: ∀W,Kp No W1 W->W.cell? ⟨w.heap.size,1,none⟩=some (.int .i64 c):=λW h=>by rw [Q0 (h.get b1 λx=>x)];rfl
 have c2: ∀W,Kp No W1 W->W.cell? ⟨w.heap.size,2,none⟩=some (.int .i64 o):=λW h=>by rw [Q0 (h.get b1 λx=>x)];rfl
 have e0: ∀W,Kp No W1 W->W.cell? ⟨w.heap.size+1,0,none⟩=some (.int .i64 m'):=λW h=>by rw [Q0 (h.get b2 λx=>x)];rfl
 have e1: ∀W,Kp No W1 W->W.cell? ⟨w.heap.size+1,1,none⟩=some (.int .i64 c'):=λW h=>by rw [Q0 (h.get b2 λx=>x)];rfl
 have e2: ∀W,Kp No W1 W->W.cell? ⟨w.heap.size+1,2,none⟩=some (.int .i64 o'):=λW h=>by rw [Q0 (h.get b2 λx=>x)];rfl
 have HR:=zz (show r=if Js m c m' c'≠0 then Js m c m' c' else Vv o o' from hr);have HH:=zz H1;clear b1 b2 hr H1;go_enter Tryz.func191,Tryz.ntmps191
 go_wp2_with fail
 rw [<-hW1];clear hW1;refine zD No [0,0,0,0,2,0,0,0,0,2,2,2,0] [0,1,2,3,5,6,7,8,4,9,10,11,12] ?_;repeat (first|refine zA ?_|refine zB ?_|refine zC ?_)
 refine Q4 rfl rfl (λn1=>?_);go_wp2_with fail
 refine (X7 m c m' c' _).mono ?_;rintro e w2 ⟨rfl,hk2⟩;have h2:Kp No W1 w2:=hk2.of_drewN;clear hk2;go_wp2_with fail
 repeat (first|refine zA ?_|refine zB ?_|refine zC ?_)
 refine Q4 rfl rfl (λn2=>?_);go_wp2_with fail
 refine (Ci o o' _).mono ?_;rintro e w3 ⟨rfl,rfl⟩;have h3:Kp No W1 (w2.drewN n2):=h2.drewN n2;go_wp2_with fail
 obtain ⟨W3,hW3⟩: ∃W,W=w2.drewN n2:=⟨_,rfl⟩;rw [<-hW3] at h3
 (try rw [<-hW3])
 clear h2 hW3;refine Q4 rfl rfl (λn3=>?_);go_wp2_with fail
 refine ⟨(h3.drewN n3).alloc _,?_⟩;have hg:=heap_alloc_new (W3.drewN n3) (.cells #[.int .i64 (Js m c m' c'), .int .i64 (Vv o o')] 3);have hOr:=λn4=>Q9l (Js m c m' c') (Vv o o') (((W3.drewN n3).alloc (.cells #[.int .i64 (Js m c m' c'), .int .i64 (Vv o o')] 3)).drewN n4) W3.heap.size 2 hg;rw [<-HR.out] at hOr;have h4:Kp No W1 ((W3.drewN n3).alloc (.cells #[.int .i64 (Js m c m' c'), .int .i64 (Vv o o')] 3)):=(h3.drewN n3).alloc _;have HO:=zz hOr;clear hg hOr h3 c0 c1 c2 e0 e1 e2;refine Q4 rfl rfl (λn4=>?_);go_wp2_with fail
 refine (HO.out n4).mono ?_;rintro e w' ⟨rfl,rfl⟩;have h5:=h4.drewN n4;clear h4;go_wp2_with fail
 repeat (first|refine zA ?_|refine zB ?_|refine zC ?_)
 refine Q6 (λnq=>?_);have H5:=zz (HH.out.trans_same h5);clear h5;go_wp2_with fail
 go_ret
 exact ⟨rfl,H5.out.drewN _⟩
theorem Qf2 (m c o:Int) (v:Value) (g:Bool) (tt t1 t2:Int) (w:World):
  Calls Tryz.prog 134 #[Qd7 m c o v g tt,Xo t1 t2] w λe w'=>e= .returned (.bool (Hr m c g tt t1 t2))/\Kp No w w':=by
 obtain ⟨r,hr⟩: ∃r,r=Hr m c g tt t1 t2:=⟨_,rfl⟩;rw [<-hr];have hcc:=λW=>X7 m c t1 t2 W;obtain ⟨q,hq⟩: ∃q,q=Js m c t1 t2:=⟨_,rfl⟩;unfold Hr at hr;rw [<-hq] at hr hcc;have HC:=zz hcc;have HR:=zz hr;clear hr hcc hq;obtain ⟨W1,hW1⟩: ∃W1,W1=(w.alloc (.cells #[.int .i64 m, .int .i64 c, .int .i64 o,v, .bool g, .int .i64 tt] 44)).alloc (.cells #[.int .i64 t1, .int .i64 t2] 25):=⟨_,rfl⟩;have H1:Kp No w W1:=by rw [hW1];exact (zK.alloc _).alloc _
 have b1:W1.heap[w.heap.size]?=some (.cells #[.int .i64 m, .int .i64 c, .int .i64 o,v, .bool g, .int .i64 tt] 44 (0,0)):=by rw [hW1];exact J6 (heap_alloc_new w _) _
 have b2:W1.heap[w.heap.size+1]?=some (.cells #[.int .i64 t1, .int .i64 t2] 25 (0,0)):=by rw [hW1];exact (congrArg (λk=>((w.alloc _).alloc _).heap[k]?) (by simp)).trans (heap_alloc_new (w.alloc _) _)
 have HH:=zz H1;have HB1:=zz b1;have HB2:=zz b2;clear b1 b2 H1;go_enter Tryz.func134,Tryz.ntmps134
 go_wp2_with fail
 rw [<-hW1];clear hW1;refine (HC.out _).mono ?_;rintro e W2 ⟨rfl,hk2⟩;have Qz:=zz (HH.out.trans_same hk2);have b1:=hk2.get HB1.out λx=>x;have b2:=hk2.get HB2.out λx=>x;have c0:W2.cell? ⟨w.heap.size,0,none⟩=some (.int .i64 m):=by rw [Q0 b1];rfl
 have c4:W2.cell? ⟨w.heap.size,4,none⟩=some (.bool g):=by rw [Q0 b1];rfl
 have c5:W2.cell? ⟨w.heap.size,5,none⟩=some (.int .i64 tt):=by rw [Q0 b1];rfl
 have e0:W2.cell? ⟨w.heap.size+1,0,none⟩=some (.int .i64 t1):=by rw [Q0 b2];rfl
 clear b1 b2 hk2;by_cases h1:q<=0
 ·have d1:decide (q<=0)=true:=decide_eq_true h1;have D1:=zz d1;clear h1;cases g with
  |true=>
   go_wp2_with fail
   go_ret
   exact ⟨by rw [HR.out,D1.out];rfl,Qz.out⟩
  |false=>
   by_cases h2:tt=0
   ·subst h2;go_wp2_with fail
    go_ret
    exact ⟨by rw [HR.out,D1.out];rfl,Qz.out⟩
   ·have d2:(tt==0)=false:=by simp [h2]
    have D2:=zz d2;clear h2;go_wp2_with fail
    go_ret
    exact ⟨by rw [HR.out,D1.out,D2.out];rfl,Qz.out⟩
 ·have d1:decide (q<=0)=false:=decide_eq_false h1;have D1:=zz d1;clear h1;go_wp2_with fail
  go_ret
  exact ⟨by rw [HR.out,D1.out];rfl,Qz.out⟩
end Go.Proofs.YtgnkmjeoaoongaaGreatDoor
