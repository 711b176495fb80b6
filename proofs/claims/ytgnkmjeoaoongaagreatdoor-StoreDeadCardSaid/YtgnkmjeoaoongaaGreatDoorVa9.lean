/-
  RDisk, RD1, RD5, WNum, Stamps, SOrd.
-/
import Derived.Test.YtgnkmjeoaoongaaGreatDoorVa5
import Derived.Test.YtgnkmjeoaoongaaGreatDoorVa7
set_option maxRecDepth 100000
set_option maxHeartbeats 2000000
namespace Go.Mer
open Go Go.RowKit
def Uf (x y:ByteArray):Prop:=x.data.toList<y.data.toList
instance J6l (x y:ByteArray):Decidable (Uf x y):=inferInstanceAs (Decidable (x.data.toList<y.data.toList))
theorem bytes_inj {x y:ByteArray} (h:x.data.toList=y.data.toList):x=y:=by
 obtain ⟨x⟩:=x;obtain ⟨y⟩:=y;exact congrArg ByteArray.mk (Array.toList_inj.1 h)
theorem Jr (x:ByteArray): ¬Uf x x:=List.lt_irrefl _
theorem Us {x y z:ByteArray} (h:Uf x y) (h':Uf y z):Uf x z:=List.lt_trans h h'
theorem Ad (x y:ByteArray):Uf x y\/x=y\/Uf y x:=by
 by_cases h:x.data.toList<y.data.toList
 ·exact .inl h
 ·have h1:y.data.toList<=x.data.toList:=List.not_lt.1 h;by_cases h2:y.data.toList<x.data.toList
  ·exact .inr (.inr h2)
  ·exact .inr (.inl (bytes_inj (List.le_antisymm (List.not_lt.1 h2) h1)))
theorem Ij (x y:ByteArray):Op.bytesLess x.toList y.toList=decide (Uf x y):=by
 rw [Go.Proofs.bytesLess_eq,Lib.toList_data,Lib.toList_data];rfl
theorem Q84 {x y:ByteArray} (h:Uf x y):Op.bytesLess x.toList y.toList=true:=by rw [Ij];exact decide_eq_true h
theorem Ab {x y:ByteArray} (h: ¬Uf x y):Op.bytesLess x.toList y.toList=false:=by rw [Ij];exact decide_eq_false h
section
variable {K β:Type} [DecidableEq K]
theorem Xv {T S:List (K×β)} (hp:T.Perm S) (hn:(T.map (·.1)).Nodup) (k:K):Qs T k=Qs S k:=by
 have hn':(S.map (·.1)).Nodup:=(hp.map _).nodup_iff.1 hn;cases h:Qs S k with
 |none=>
  refine Xu λhm=>Z5.1 h ?_;exact (hp.map _).mem_iff.1 hm
 |some v=>exact Xc hn (hp.mem_iff.2 (Jc h))
theorem Q3c {T S:List (K×β)} (hp:T.Perm S) (k:K) (v:β):(Jb T k v).Perm (Jb S k v):=by
 unfold Jb;by_cases h:k∈T.map (·.1)
 ·rw [if_pos h,if_pos ((hp.map _).mem_iff.1 h)];exact hp.map _
 ·rw [if_neg h,if_neg (λh'=>h ((hp.map _).mem_iff.2 h'))];exact hp.append_right _
theorem Qk6 {l1 l2:List (K×β)} {k:K} (v:β) (h:k∉(l1++l2).map (·.1)):(l1++(k,v)::l2).Perm (Jb (l1++l2) k v):=by
 rw [Dv h,List.append_assoc];exact List.Perm.append_left _ ((List.perm_append_singleton (k,v) l2).symm)
end
end Go.Mer
namespace Go.Proofs.YtgnkmjeoaoongaaGreatDoor
open Go.RowKit Go.Mer
structure Qp where
 name:ByteArray
 a:Option Addr
 cap:Nat
 data:List UInt8
 lasts:Nat
def Qp.val (f:Qp):Value:= .slice f.a f.data.length f.cap
def Qp.cells (f:Qp):List Value:=[.string f.name, .slice f.a f.data.length f.cap, .int .i64 (f.lasts:Int)]
def Qp.pair (f:Qp):ByteArray×Fc:=(f.name,⟨f.data,f.lasts⟩)
theorem Qp.Yt (f:Qp):f.cells.length=3:=rfl
theorem Qp.cells_one (f:Qp): ∀u∈f.cells,u.oneCell'=true:=by
 intro u hu;simp only [Qp.cells,List.mem_cons,List.not_mem_nil,or_false] at hu;rcases hu with rfl|rfl|rfl<;>rfl
def Zh (L:List Qp):Jl:=L.map Qp.pair
def Ys (L:List Qp):Prop:=L.Pairwise λf g=>Uf f.name g.name
def leftOf:Option Nat->Int
 |none=> -1
 |some n=>(n:Int)
def Ux (w:World) (f:Qp):Prop:=Own w 5 1 f.val f.data.length (u8s f.data)/\f.lasts<=f.data.length
structure RC (w:World) (r room:Nat) (left:Int) (rv:Value) (L:List Qp):Prop where
 cell:w.heap[r]?=some (.cells #[.int .i64 (room:Int),rv, .int .i64 left] 167 (0,0))
 row:Own w 170 3 rv L.length (L.flatMap Qp.cells)
 files: ∀f∈L,Ux w f
 sorted:Ys L
 fits:Jw (Zh L)<=room
 roomy:room<=1073741824
 few:L.length<=4096
 left0: -1<=left
 Ii:left<=9223372036854775807
def Qix (r:Nat) (rv:Value) (L:List Qp):Nat->Prop:=λk=>k=r\/rv.ownBlock=some k\/ ∃f∈L,f.val.ownBlock=some k
def Mr (w:World) (r:Nat) (s:Qz) (G:Nat->Prop):Prop:=
 ∃rv L,RC w r s.room (leftOf s.Jo) rv L/\(Zh L).Perm s.files/\(∀k,Qix r rv L k->G k)/\ ∀k,G k->k<w.heap.size
section
variable {w w':World} {r room:Nat} {left:Int} {rv:Value} {L:List Qp}
theorem Cg (L:List Qp):(Zh L).map (·.1)=L.map (·.name):=by simp [Zh,Qp.pair,List.map_map,Function.comp_def]
theorem Ys.keys (h:Ys L):((Zh L).map (·.1)).Nodup:=by
 rw [Cg];exact List.pairwise_map.2 (h.imp λhlt e=>by rw [e] at hlt;exact Jr _ hlt)
theorem Ux.keep {S:Nat->Prop} {f:Qp} (h:Ux w f) (hk:Kp S w w') (hS: ∀g,f.val.ownBlock=some g-> ¬S g):Ux w' f:=⟨h.1.keep hk hS,h.2⟩
theorem RC.keep {S:Nat->Prop} (h:RC w r room left rv L) (hk:Kp S w w') (hS: ∀k,Qix r rv L k-> ¬S k):RC w' r room left rv L:=
 {h with
  cell:=hk.get h.cell (hS r (.inl rfl))
  row:=h.row.keep hk λg hg=>hS g (.inr (.inl hg))
  files:=λf hf=>(h.files f hf).keep hk λg hg=>hS g (.inr (.inr ⟨f,hf,hg⟩))}
theorem RC.Q9 (h:RC w r room left rv L) (hk:Kp No w w'):RC w' r room left rv L:=h.keep hk λ_ _ x=>x
theorem RC.lt (h:RC w r room left rv L): ∀k,Qix r rv L k->k<w.heap.size:=by
 rintro k (rfl|hk|⟨f,hf,hk⟩)
 ·exact Q7 h.cell
 ·exact h.row.lt k hk
 ·exact (h.files f hf).1.lt k hk
theorem Mr.keep {S G:Nat->Prop} {s:Qz} (h:Mr w r s G) (hk:Kp S w w') (hS: ∀k,G k-> ¬S k):Mr w' r s G:=by
 obtain ⟨rv,L,h1,h2,h3,h4⟩:=h;exact ⟨rv,L,h1.keep hk (λk hf=>hS k (h3 k hf)),h2,h3,λk hf=>hk.lt (h4 k hf)⟩
theorem Mr.Q9 {G:Nat->Prop} {s:Qz} (h:Mr w r s G) (hk:Kp No w w'):Mr w' r s G:=h.keep hk λ_ _ x=>x
theorem RC.row_ne (h:RC w r room left rv L) {g:Nat} (hg:rv.ownBlock=some g):g≠r:=by
 obtain ⟨cur,hc⟩:=h.row.type g hg;exact Qd hc h.cell (by decide)
theorem RC.Q4j (h:RC w r room left rv L) {f:Qp} (hf:f∈L) {g:Nat} (hg:f.val.ownBlock=some g):g≠r/\rv.ownBlock≠some g:=by
 obtain ⟨cur,hc⟩:=(h.files f hf).1.type g hg;refine ⟨Qd hc h.cell (by decide),λe=>?_⟩;obtain ⟨cur',hc'⟩:=h.row.type g e;exact Qd hc hc' (by decide) rfl
theorem RC.Hb (h:RC w r room left rv L) (left':Int) (h0: -1<=left') (h1:left'<=9223372036854775807) (hk:Kp (One r) w w')
  (hc:w'.heap[r]?=some (.cells #[.int .i64 (room:Int),rv, .int .i64 left'] 167 (0,0))):RC w' r room left' rv L:=
 {h with
  cell:=hc
  row:=h.row.keep hk λ_ hg e=>h.row_ne hg e
  files:=λf hf=>(h.files f hf).keep hk λ_ hg e=>(h.Q4j hf hg).1 e
  left0:=h0
  Ii:=h1}
inductive Qam (L:List Qp) (k:ByteArray):Nat->Bool->Prop
 |is (L1:List Qp) (f:Qp) (L2:List Qp) (hL:L=L1++f::L2) (hk:f.name=k):Qam L k L1.length true
 |no (L1 L2:List Qp) (hL:L=L1++L2) (h1: ∀f∈L1,Uf f.name k) (h2: ∀f∈L2,Uf k f.name):Qam L k L1.length false
theorem Qrb {i:Nat} (hi:i<L.length) {k:ByteArray} (hk:L[i].name=k):Qam L k i true:=by
 have e:L=L.take i++L[i]::L.drop (i+1):=by
  rw [<-List.drop_eq_getElem_cons hi,List.take_append_drop]
 have h:=Qam.is (k:=k) (L.take i) L[i] (L.drop (i+1)) e hk;rwa [List.length_take,Nat.min_eq_left (by omega)] at h
theorem Qei (hs:Ys L) {i:Nat} (hi:i<=L.length) {k:ByteArray} (h1: ∀f∈L.take i,Uf f.name k) (h2: ∀h:i<L.length,Uf k L[i].name):Qam L k i false:=by
 have h:=Qam.no (k:=k) (L.take i) (L.drop i) (List.take_append_drop i L).symm h1 (λf hf=>by
  by_cases hl:i<L.length
  ·rw [List.drop_eq_getElem_cons hl] at hf;rcases List.mem_cons.1 hf with rfl|hf
   ·exact h2 hl
   ·refine Us (h2 hl) ?_
    have hp:(L[i]::L.drop (i+1)).Pairwise λf g=>Uf f.name g.name:=by
     rw [<-List.drop_eq_getElem_cons hl];exact List.Pairwise.sublist (List.drop_sublist _ _) hs
    exact (List.pairwise_cons.1 hp).1 f hf
  ·rw [List.drop_eq_nil_of_le (by omega)] at hf;cases hf)
 rwa [List.length_take,Nat.min_eq_left hi] at h
theorem Qb1 (hs:Ys L) {L1 L2:List Qp} {f:Qp} (hL:L=L1++f::L2):Qs (Zh L) f.name=some ⟨f.data,f.lasts⟩:=
 Xc hs.keys (by rw [hL];simp [Zh,Qp.pair])
theorem Qb2 {L1 L2:List Qp} {k:ByteArray} (h1: ∀f∈L1,Uf f.name k) (h2: ∀f∈L2,Uf k f.name):Qs (Zh (L1++L2)) k=none:=Xu (by
 rw [Cg,List.mem_map];rintro ⟨f,hf,rfl⟩;rcases List.mem_append.1 hf with hf|hf
 ·exact Jr _ (h1 f hf)
 ·exact Jr _ (h2 f hf))
theorem sorted_put {L1 L2:List Qp} (hs:Ys (L1++L2)) {f:Qp} (h1: ∀g∈L1,Uf g.name f.name) (h2: ∀g∈L2,Uf f.name g.name):Ys (L1++f::L2):=by
 unfold Ys at hs⊢;rw [List.pairwise_append] at hs⊢;refine ⟨hs.1,List.pairwise_cons.2 ⟨h2,hs.2.1⟩,λa ha b hb=>?_⟩;rcases List.mem_cons.1 hb with rfl|hb
 ·exact h1 a ha
 ·exact hs.2.2 a ha b hb
theorem Q9a {L1 L2:List Qp} {f g:Qp} (hs:Ys (L1++f::L2)) (hn:g.name=f.name):Ys (L1++g::L2):=by
 unfold Ys at hs⊢;rw [List.pairwise_append,List.pairwise_cons] at hs⊢;rw [hn];refine ⟨hs.1,hs.2.1,λa ha b hb=>?_⟩;rcases List.mem_cons.1 hb with rfl|hb
 ·rw [hn];exact hs.2.2 a ha f (List.mem_cons_self ..)
 ·exact hs.2.2 a ha b (List.mem_cons_of_mem _ hb)
def Qj1 (w:World) (r:Nat) (G:Nat->Prop) (q:Int×Qz) (e:Ending) (w':World):Prop:=
 e= .returned (.int .i64 q.1)/\ ∃G',Mr w' r q.2 G'/\Je G G' w/\Kp G w w'
end
theorem Q8x (w:World) (r room:Nat) (left:Int) (rv:Value) (L:List Qp) (h:RC w r room left rv L) (na:Option Addr) (nc:Nat) (ns:List ByteArray) (hns:Rd w w.heap.size na (ns.map Value.string)) (hnl:ns.length<=1000):
  Calls Tryz.prog 223 #[.pointer (some ⟨r,0,none⟩), .slice na ns.length nc] w λe w'=>e= .returned (.int .i64 (if left=0 then 9 else if ns.all Jq=true then 0 else 1))/\Kp No w w':=by
 obtain ⟨ra,Yp,rfl,hrc,hrd⟩:=h.row.rd;have c0:=Q4 h.cell 0;have c1:=Q4 h.cell 1;have c2:=Q4 h.cell 2;have hrl:=Q7 h.cell;simp at c0 c1 c2
 have HN:=zz hns;clear h hns c0 c1 hrd hrc;obtain ⟨q,hq⟩: ∃q:Int,q=if left=0 then 9 else if ns.all Jq=true then 0 else 1:=⟨_,rfl⟩
 rw [<-hq];by_cases h0:left=0
 ·subst h0;have HE:=zz hq;clear hq;go_enter Tryz.func223,Tryz.ntmps223
  go_wp2_with fail
  go_ret
  exact ⟨by rw [HE.out];rfl,Kp.refl _ _⟩
 ·have f0:(left==0)=false:=by simpa using h0
  rw [if_neg h0] at hq;have HE:=zz hq;clear h0 hq;go_enter Tryz.func223,Tryz.ntmps223
  go_wp2_with fail
  rename World=>w0;go_loopw [5] (λi wr=> ∃k:Nat,k<=ns.length/\i= .int .i64 (k:Int)/\Hid ((ns.take k).all Jq=true)/\Hid (Kp No w0 wr)) (λi _=>ns.length-(intOf i).toNat)
  case atStart=>exact ⟨0,Nat.zero_le _,rfl,zz (by simp),zz zK⟩
  case round=>
   obtain ⟨k,hk,rfl,HA,M8⟩:=hrel;by_cases hlt:k<ns.length
   ·obtain ⟨g,off,rfl,hg,_,hc⟩:=(HN.out.keep M8.out λ_ _ x=>x).at_ (i:=k) (u:= .string ns[k]) (by simp [hlt]);have hgl:g<wr.heap.size:=Nat.lt_of_lt_of_le hg M8.out.size;have HT:=zz (List.take_succ_eq_append_getElem hlt);have Q2a:=zz (show ns[k]∈ns from List.getElem_mem hlt);by_cases h1:ns[k].size<1
    ·have hno:ns.all Jq=false:=by
      rw [List.all_eq_false];exact ⟨ns[k],Q2a.out,by simp [Jq];omega⟩
     have Qac:=zz hno;clear hno HT HA;go_wp2_with fail
     go_ret
     exact ⟨by rw [HE.out,Qac.out];rfl,M8.out⟩
    ·by_cases h2:64<ns[k].size
     ·have hno:ns.all Jq=false:=by
       rw [List.all_eq_false];exact ⟨ns[k],Q2a.out,by simp [Jq];omega⟩
      have Qac:=zz hno;clear hno;go_wp2_with fail
      go_ret
      exact ⟨by rw [HE.out,Qac.out];rfl,M8.out⟩
     ·have HA2:Hid ((ns.take (k+1)).all Jq=true):=zz (by
       rw [HT.out,List.all_append,HA.out];simp [Jq]
       omega)
      go_wp2_with fail
      go_roundw
      case rel=>exact ⟨k+1,by omega,by go_num,HA2,M8⟩
      case measure=>simp [intOf];omega
   ·obtain rfl:k=ns.length:=by omega
    have hal:=HA.out;rw [List.take_length] at hal;have Qcz:=zz hal;clear hal hlt;go_wp2_with fail
    go_ret
    exact ⟨by rw [HE.out,Qcz.out];rfl,M8.out⟩
theorem Cj {f:Option Nat} (hf:f≠some 0):leftOf (f.map (· - 1))=if 0<leftOf f then leftOf f-1 else leftOf f:=by
 cases f with
 |none=>rfl
 |some n=>
  show ((n-1:Nat):Int)=if 0<(n:Int) then (n:Int)-1 else (n:Int)
  have:0<n:=by
   rcases Nat.eq_zero_or_pos n with rfl|h
   ·exact absurd rfl hf
   ·exact h
  rw [if_pos (by omega)];omega
theorem Q1d (w:World) (r room:Nat) (left:Int) (rv:Value) (L:List Qp) (h:RC w r room left rv L):
  Calls Tryz.prog 225 #[.pointer (some ⟨r,0,none⟩)] w λe w'=>e= .returned (.int .i64 0)/\RC w' r room (if 0<left then left-1 else left) rv L/\Kp (One r) w w':=by
 have hrow:=h.row.rd;obtain ⟨ra,Yp,rfl,_,_⟩:=hrow;have c2:=Q4 h.cell 2;have f2:=Qh h.cell 2;have hrl:=Q7 h.cell;simp at c2
 have hl0:=h.left0;have Jj4:=h.Ii;by_cases h0:0<left
 ·have hk:Kp (One r) w (w.setCell ⟨r,2,none⟩ (.int .i64 (left-1))):=(Kp.refl (One r) _).setCell (p:=⟨r,2,none⟩) (.inl rfl) _;have h2:=h.Hb (left-1) (by omega) (by omega) hk (by have:=Ql h.cell 2 (.int .i64 (left-1));simpa using this);have H2:=zz h2;have HK:=zz hk;clear h h2 hk;go_enter Tryz.func225,Tryz.ntmps225
  go_wp2_with fail
  go_ret
  exact ⟨rfl,H2.out,HK.out⟩
 ·have H2:=zz h;clear h;go_enter Tryz.func225,Tryz.ntmps225
  go_wp2_with fail
  go_ret
  exact ⟨rfl,H2.out,Kp.refl _ _⟩
theorem Cn (w:World) (r room:Nat) (left:Int) (rv:Value) (L:List Qp) (h:RC w r room left rv L) (k:ByteArray):
  Calls Tryz.prog 219 #[.pointer (some ⟨r,0,none⟩), .string k] w λe w'=> ∃(i:Nat) (b:Bool),e= .returned (.tuple #[.int .i64 (i:Int), .bool b])/\Qam L k i b/\Kp No w w':=by
 obtain ⟨ra,Yp,rfl,hrc,hrd⟩:=h.row.rd;have Oy:=zz (show ∀W,Kp No w W->W.cell? ⟨r,1,none⟩=some (.slice ra L.length Yp)/\r<W.heap.size from λW hW=>⟨by rw [Q4 (hW.get h.cell λx=>x)];rfl,Q7 (hW.get h.cell λx=>x)⟩);have Ky:=zz hrd;have HS:=zz h.sorted;have hfew:=h.few;clear h hrd;go_enter Tryz.func219,Tryz.ntmps219
 go_wp2_with fail
 rename World=>w0;go_loopw [6] (λi wr=> ∃j:Nat,j<=L.length/\i= .int .i64 (j:Int)/\Hid (∀f∈L.take j,Uf f.name k)/\Hid (Kp No w0 wr)) (λi _=>L.length-(intOf i).toNat)
 case atStart=>exact ⟨0,Nat.zero_le _,rfl,zz (by simp),zz zK⟩
 case round=>
  obtain ⟨j,hj,rfl,HL,M8⟩:=hrel;obtain ⟨c1,hrl⟩:=Oy.out _ M8.out;by_cases hlt:j<L.length
  ·obtain ⟨g,off,rfl,l0⟩:=Zb (f:=Qp.cells) (c:=3) Qp.Yt (by decide) Ky.out hlt;have d0:=l0 _ M8.out 0 _ rfl;rw [Nat.add_zero] at d0;have hgl:g<wr.heap.size:=World.block_lt_of_cell? wr _ d0;have HT:=zz (List.take_succ_eq_append_getElem hlt);rcases Ad L[j].name k with hn|hn|hn
   ·have f1:=Q84 hn
    have HL2:Hid (∀f∈L.take (j+1),Uf f.name k):=zz λf hf=>by
     rw [HT.out,List.mem_append,List.mem_singleton] at hf;rcases hf with hf|rfl
     ·exact HL.out f hf
     ·exact hn
    clear l0 hn;go_wp2_with fail
    go_roundw
    case rel=>exact ⟨j+1,by omega,by go_num,HL2,M8⟩
    case measure=>simp [intOf];omega
   ·have f1:=Ab (by rw [hn];exact Jr k: ¬Uf L[j].name k);have f2:(L[j].name.toList==k.toList)=true:=by rw [hn];exact beq_self_eq_true _
    have Mp:=zz (Qrb hlt hn);clear l0 hn;go_wp2_with fail
    refine zE [0,0,0,0,0,1,1,0,0,0,0,0,1,0,0,0,1,0,0,0,0,0] [0,1,2,3,4,5,6,7,8,9,10,11,13,17,20,12,14,15,16,18,19,21] ?_;repeat (first|refine zA ?_|refine zB ?_|refine zC ?_)
    refine Qa (λnq=>?_);have J9:=zz (M8.out.drewN nq);go_wp2_with fail
    go_ret2
    exact ⟨j,true,rfl,Mp.out,J9.out⟩
   ·have f1:=Ab (λh=>Jr _ (Us h hn): ¬Uf L[j].name k)
    have f2:(L[j].name.toList==k.toList)=false:=by
     rw [<-beq_toListBytes];exact beq_false_of_ne (λe=>by rw [e] at hn;exact Jr _ hn)
    have Mp:=zz (Qei HS.out hj HL.out (λ_=>hn));clear l0 hn;go_wp2_with fail
    refine zE [0,0,0,0,0,1,1,0,0,0,0,0,1,0,0,0,1,0,0,0,0,0] [0,1,2,3,4,5,6,7,8,9,10,11,13,17,20,12,14,15,16,18,19,21] ?_;repeat (first|refine zA ?_|refine zB ?_|refine zC ?_)
    refine Qa (λnq=>?_);have J9:=zz (M8.out.drewN nq);go_wp2_with fail
    go_ret2
    exact ⟨j,false,rfl,Mp.out,J9.out⟩
  ·obtain rfl:j=L.length:=by omega
   have Mp:=zz (Qei HS.out hj HL.out (λh=>absurd h hlt));clear hlt;go_wp2_with fail
   refine zE [0,0,0,0,0,1,1,0,0,0,0,0,1,0,0,0,1,0,0,0,0,0] [0,1,2,3,4,5,6,7,8,9,10,11,13,17,20,12,14,15,16,18,19,21] ?_;repeat (first|refine zA ?_|refine zB ?_|refine zC ?_)
   refine Qa (λnq=>?_);have J9:=zz (M8.out.drewN nq);go_wp2_with fail
   go_ret2
   exact ⟨L.length,false,rfl,Mp.out,J9.out⟩
theorem J34: ∀x:Fin 256,x.val|||128=x.val % 128+128:=by decide+kernel
theorem Q5g (u:Nat):bits .or .u8 ((u:Int) % 256) 128=((u % 128+128:Nat):Int):=by
 have e:((u:Int) % 256)=((u % 256:Nat):Int):=(Int.natCast_emod u 256).symm;rw [e,show (128:Int)=((128:Nat):Int) from rfl,Q4d (k:= .u8) rfl (show u % 256<2^8 by omega) (by decide),J34 ⟨u % 256,by omega⟩];congr 1
 show u % 256 % 128+128=_
 omega
theorem Eg {u:Nat} (h:128<=u):Qq u=UInt8.ofNat (u % 128+128)::Qq (u/128):=Ck (by omega)
theorem Lz (u:Nat):(UInt8.ofNat (u % 128+128)).toNat=u % 128+128:=by rw [Ov];omega
theorem Fo (w W:World) (v:Value) (xs:List UInt8) (x:UInt8) (hO:Mer.Own W 5 1 v xs.length (u8s xs)) (hf: ∀g,v.ownBlock=some g->w.heap.size<=g) (hk:Kp No w W) (hl:xs.length<=140737488355000):
  ∃a' c' W',(Builtin.append_ #[42,42] 42 #[v, .slice (some ⟨W.heap.size,0,none⟩) 1 1]).run Tryz.prog (W.alloc (.cells #[.int .u8 (x.toNat:Int)] 5))= .ok (.slice a' (xs.length+1) c') W'/\Mer.Own W' 5 1 (.slice a' (xs.length+1) c') (xs.length+1) (u8s (xs++[x]))/\
   (∀g,(Value.slice a' (xs.length+1) c').ownBlock=some g->w.heap.size<=g)/\Kp No w W':=by
 have hk1:Kp No W (W.alloc (.cells #[.int .u8 (x.toNat:Int)] 5)):=zK.alloc _;obtain ⟨a',c',W',h1,h2,h3,h4⟩:=Yb w (W.alloc (.cells #[.int .u8 (x.toNat:Int)] 5)) v xs [x] (hO.keep hk1 λ_ _ x=>x) hf (hk.Q0 hk1) (some ⟨W.heap.size,0,none⟩) 1 (Rd.const W 5 (0,0) _ _ rfl) (by simp only [List.length_singleton];omega);rw [List.length_append,List.length_singleton] at h1 h2 h3;exact ⟨a',c',W',h1,h2,h3,h4⟩
theorem Il {n:Nat} (h:n<=1000000000000):(Qq n).length<=6:=Js 5 n (Nat.lt_of_le_of_lt h (by decide))
theorem Qek (u:Nat) (h:u<=1000000000000): ∃v:Nat,v<128/\v=u % 128/\bits .and .u64 (u:Int) 127=(v:Int)/\(v:Int) % 256=(v:Int)/\bits .or .u8 (v:Int) 128=((UInt8.ofNat (u % 128+128)).toNat:Int)/\ ∃z:Nat,z=u/128/\(u:Int)/128=(z:Int):=by
 refine ⟨u % 128,Nat.mod_lt _ (by decide),rfl,?_,Int.emod_eq_of_lt (by omega) (by omega),?_,u/128,rfl,(Int.natCast_ediv u 128).symm⟩
 ·have:=Lx (k:= .u64) rfl (a:=u) (b:=127) (show u<2^64 by omega) (by decide);rw [show (127:Nat)=2^7-1 from rfl,Nat.and_two_pow_sub_one_eq_mod u 7] at this;exact this
 ·rw [Lz];have:=Q5g (u % 128);rw [Int.emod_eq_of_lt (by omega) (by omega)] at this;rw [this];congr 1
  omega
def Q6j (w wr:World) (n u:Nat) (a:Option Addr) (k c:Nat):Prop:=
 ∃xs:List UInt8,xs.length=k/\Qq n=xs++Qq u/\Mer.Own wr 5 1 (.slice a k c) k (u8s xs)/\(∀g,(Value.slice a k c).ownBlock=some g->w.heap.size<=g)/\Kp No w wr
theorem Q1b (n:Nat) (hn:n<=1000000000000) (w:World):Calls Tryz.prog 69 #[.int .i64 (n:Int)] w (Qda w (Qq n)):=by
 have d1:decide ((4611686018427387904:Int)<(n:Int))=false:=by rw [decide_eq_false_iff_not];omega
 by_cases h0:0<n
 ·have d2:decide ((0:Int)<(n:Int))=true:=by rw [decide_eq_true_iff];omega
  have hmod:(n:Int) % 18446744073709551616=(n:Int):=Int.emod_eq_of_lt (by omega) (by omega);go_enter Tryz.func69,Tryz.ntmps69
  go_wp2_with fail
  rename World=>w0;go_loopw [3,4] (λs3 s4 wr=> ∃(u:Nat) (a:Option Addr) (k c:Nat),u<=1000000000000/\s3= .int .u64 (u:Int)/\s4= .slice a k c/\Hid (Q6j w0 wr n u a k c)) (λs3 _ _=>(intOf s3).toNat)
  case atStart=>exact ⟨n,none,0,0,by omega,rfl,rfl,zz ⟨[],rfl,rfl,Mer.Own.nil _ _ _,λg h=>(by cases h),Kp.refl _ _⟩⟩
  case round=>
   obtain ⟨u,a,k,c,hu,rfl,rfl,HR⟩:=hrel;obtain ⟨xs,hk,hnum,hown,hfr,hkp⟩:=HR.out
   have hkl:k<=6:=by
    have h1:=Il hn;rw [hnum,List.length_append] at h1;omega
   by_cases hlt:128<=u
   ·have e1:decide ((128:Int)<=(u:Int))=true:=by rw [decide_eq_true_iff];omega
    have e2:decide (128<=u)=true:=decide_eq_true hlt;obtain ⟨v,hv1,hv2,b1,b2,b3,z,hz,b4⟩:=Qek u hu;obtain ⟨a',c',w',hrun,ho,hf,hk'⟩:=Fo w0 wr (.slice a k c) xs (UInt8.ofNat (u % 128+128)) (by rw [hk];exact hown) hfr hkp (by omega);rw [hk] at hrun ho hf;have hnew:Q6j w0 w' n z a' (k+1) c':=⟨xs++[UInt8.ofNat (u % 128+128)],by rw [List.length_append,hk];rfl,by rw [hnum,Eg hlt,hz,List.append_assoc];rfl,ho,hf,hk'⟩;obtain ⟨x,hx⟩: ∃x:Nat,x=(UInt8.ofNat (u % 128+128)).toNat:=⟨_,rfl⟩;rw [<-hx] at hrun b3;have HX:=zz hrun;have Y4:=zz hnew;have hzu:z<u:=by omega
    have HZ:=zz hz;clear hv2 hz hnum hown hfr hkp hrun ho hf hk' hnew hx hk HR;go_wp2_with (at_builtin;refine wpList_append_run rfl rfl rfl rfl HX.out ?_)
    go_roundw
    case rel=>exact ⟨z,a',k+1,c',by omega,rfl,rfl,Y4⟩
    case measure=>simp [intOf];omega
   ·have e1:decide ((128:Int)<=(u:Int))=false:=by rw [decide_eq_false_iff_not];omega
    have e2:decide (128<=u)=false:=by rw [decide_eq_false_iff_not];omega
    have hm:(u:Int) % 256=(u:Int):=Int.emod_eq_of_lt (by omega) (by omega);obtain ⟨a',c',w',hrun,ho,hf,hk'⟩:=Fo w0 wr (.slice a k c) xs (UInt8.ofNat u) (by rw [hk];exact hown) hfr hkp (by omega);rw [hk] at hrun ho hf;rw [show (UInt8.ofNat u).toNat=u by rw [Ov];omega] at hrun;have hl:Qq n=xs++[UInt8.ofNat u]:=by rw [hnum,Yh (by omega)]
    have hll:(Qq n).length=k+1:=by rw [hl,List.length_append,hk];rfl
    have hfin:Qda w0 (Qq n) (.returned (.slice a' (k+1) c')) w':=⟨a',c',by rw [hll],by rw [hll,hl];exact ho,by rw [hll];exact hf,hk'⟩;have HX:=zz hrun;have Yf:=zz hfin;clear hnum hown hfr hkp hrun ho hf hk' hfin hk hl hll HR;go_wp2_with (at_builtin;refine wpList_append_run rfl rfl rfl rfl HX.out ?_)
    go_ret
    exact Yf.out
 ·have d2:decide ((0:Int)<(n:Int))=false:=by rw [decide_eq_false_iff_not];omega
  have J5q:=zz (show n=0 by omega);go_enter Tryz.func69,Tryz.ntmps69
  go_wp2_with fail
  rename World=>w0;go_loopw [3,4] (λs3 s4 wr=> ∃(u:Nat) (a:Option Addr) (k c:Nat),u<=1000000000000/\s3= .int .u64 (u:Int)/\s4= .slice a k c/\Hid (Q6j w0 wr n u a k c)) (λs3 _ _=>(intOf s3).toNat)
  case atStart=>exact ⟨0,none,0,0,by omega,rfl,rfl,zz ⟨[],rfl,by rw [J5q.out];rfl,Mer.Own.nil _ _ _,λg h=>(by cases h),Kp.refl _ _⟩⟩
  case round=>
   obtain ⟨u,a,k,c,hu,rfl,rfl,HR⟩:=hrel;obtain ⟨xs,hk,hnum,hown,hfr,hkp⟩:=HR.out
   have hkl:k<=6:=by
    have h1:=Il hn;rw [hnum,List.length_append] at h1;omega
   by_cases hlt:128<=u
   ·have e1:decide ((128:Int)<=(u:Int))=true:=by rw [decide_eq_true_iff];omega
    have e2:decide (128<=u)=true:=decide_eq_true hlt;obtain ⟨v,hv1,hv2,b1,b2,b3,z,hz,b4⟩:=Qek u hu;obtain ⟨a',c',w',hrun,ho,hf,hk'⟩:=Fo w0 wr (.slice a k c) xs (UInt8.ofNat (u % 128+128)) (by rw [hk];exact hown) hfr hkp (by omega);rw [hk] at hrun ho hf;have hnew:Q6j w0 w' n z a' (k+1) c':=⟨xs++[UInt8.ofNat (u % 128+128)],by rw [List.length_append,hk];rfl,by rw [hnum,Eg hlt,hz,List.append_assoc];rfl,ho,hf,hk'⟩;obtain ⟨x,hx⟩: ∃x:Nat,x=(UInt8.ofNat (u % 128+128)).toNat:=⟨_,rfl⟩;rw [<-hx] at hrun b3;have HX:=zz hrun;have Y4:=zz hnew;have hzu:z<u:=by omega
    have HZ:=zz hz;clear hv2 hz hnum hown hfr hkp hrun ho hf hk' hnew hx hk HR;go_wp2_with (at_builtin;refine wpList_append_run rfl rfl rfl rfl HX.out ?_)
    go_roundw
    case rel=>exact ⟨z,a',k+1,c',by omega,rfl,rfl,Y4⟩
    case measure=>simp [intOf];omega
   ·have e1:decide ((128:Int)<=(u:Int))=false:=by rw [decide_eq_false_iff_not];omega
    have e2:decide (128<=u)=false:=by rw [decide_eq_false_iff_not];omega
    have hm:(u:Int) % 256=(u:Int):=Int.emod_eq_of_lt (by omega) (by omega);obtain ⟨a',c',w',hrun,ho,hf,hk'⟩:=Fo w0 wr (.slice a k c) xs (UInt8.ofNat u) (by rw [hk];exact hown) hfr hkp (by omega);rw [hk] at hrun ho hf;rw [show (UInt8.ofNat u).toNat=u by rw [Ov];omega] at hrun;have hl:Qq n=xs++[UInt8.ofNat u]:=by rw [hnum,Yh (by omega)]
    have hll:(Qq n).length=k+1:=by rw [hl,List.length_append,hk];rfl
    have hfin:Qda w0 (Qq n) (.returned (.slice a' (k+1) c')) w':=⟨a',c',by rw [hll],by rw [hll,hl];exact ho,by rw [hll];exact hf,hk'⟩;have HX:=zz hrun;have Yf:=zz hfin;clear hnum hown hfr hkp hrun ho hf hk' hfin hk hl hll HR;go_wp2_with (at_builtin;refine wpList_append_run rfl rfl rfl rfl HX.out ?_)
    go_ret
    exact Yf.out
theorem Q3q {S:Nat->Prop} (w W:World) (v:Value) (xs:List UInt8) (x:UInt8) (hO:Mer.Own W 5 1 v xs.length (u8s xs)) (hf: ∀g,v.ownBlock=some g->w.heap.size<=g) (hk:Kp S w W) (hl:xs.length<=140737488355000):
  ∃a' c' W',(Builtin.append_ #[42,42] 42 #[v, .slice (some ⟨W.heap.size,0,none⟩) 1 1]).run Tryz.prog (W.alloc (.cells #[.int .u8 (x.toNat:Int)] 5))= .ok (.slice a' (xs.length+1) c') W'/\Mer.Own W' 5 1 (.slice a' (xs.length+1) c') (xs.length+1) (u8s (xs++[x]))/\
   (∀g,(Value.slice a' (xs.length+1) c').ownBlock=some g->w.heap.size<=g)/\Kp S w W'/\ ∀b o,W.heap[b]?=some o->b<w.heap.size->W'.heap[b]?=some o:=by
 have hk1:Kp No W (W.alloc (.cells #[.int .u8 (x.toNat:Int)] 5)):=zK.alloc _;obtain ⟨a',c',W',h1,h2,h3,h4,h5⟩:=Q8g (S:=S) w (W.alloc (.cells #[.int .u8 (x.toNat:Int)] 5)) v xs [x] (hO.keep hk1 λ_ _ x=>x) hf (hk.alloc _) (some ⟨W.heap.size,0,none⟩) 1 (Rd.const W 5 (0,0) _ _ rfl) (by simp only [List.length_singleton];omega);rw [List.length_append,List.length_singleton] at h1 h2 h3;exact ⟨a',c',W',h1,h2,h3,h4,λb o hb hlt=>h5.get (Jm hb _) (λh=>by have:=hf b h;omega)⟩
def J01 (w wr:World) (b n u:Nat) (a:Option Addr) (k c:Nat):Prop:=
 ∃xs:List UInt8,xs.length=k/\Qq n=xs++Qq u/\Mer.Own wr 5 1 (.slice a k c) k (u8s xs)/\(∀g,(Value.slice a k c).ownBlock=some g->w.heap.size<=g)/\Kp (Mer.One b) w wr/\wr.heap[b]?=some (.cells #[.slice a k c] 121 (0,0))
def Jaw (w:World) (b:Nat) (l:List UInt8) (w':World):Prop:=
 ∃a c,w'.heap[b]?=some (.cells #[.slice a l.length c] 121 (0,0))/\Mer.Own w' 5 1 (.slice a l.length c) l.length (u8s l)/\(∀g,(Value.slice a l.length c).ownBlock=some g->w.heap.size<=g)/\Kp (Mer.One b) w w'
def J00 (w wr:World) (b n:Nat):Nat->Prop
 |0=>w=wr
 |_+1=>Jaw w b (Qq n) wr
theorem Quh (w:World) (b g c n:Nat) (hn:n<=1000000000000) (hb:w.heap[b]?=some (.cells #[.slice none 0 0] 121 (0,0))) (hg:w.cell? ⟨g,0,none⟩=some (.int .i64 (n:Int))):
  Calls Tryz.prog 58 #[.pointer (some ⟨b,0,none⟩), .slice (some ⟨g,0,none⟩) 1 c] w λe w'=>e= .returned (.tuple #[])/\Jaw w b (Qq n) w':=by
 have hbl:=Q7 hb;have HB:=zz hb;have HN:=zz hn;have d1:decide ((n:Int)<4611686018427387904)=true:=by rw [decide_eq_true_iff];omega
 have d3:min (n:Int) 4611686018427387904=(n:Int):=by omega
 have d4:max 0 (n:Int)=(n:Int):=by omega
 have hmod:(n:Int) % 18446744073709551616=(n:Int):=Int.emod_eq_of_lt (by omega) (by omega);clear hb hn;go_enter Tryz.func58,Tryz.ntmps58
 go_wp2_with fail
 rename World=>w0;go_loopw [11] (λi wr=> ∃j:Nat,j<=1/\i= .int .i64 (j:Int)/\Hid (J00 w0 wr b n j)) (λi _=>1-(intOf i).toNat)
 case atStart=>exact ⟨0,by omega,rfl,zz rfl⟩
 case round=>
  obtain ⟨j,hj,rfl,HJ⟩:=hrel;rcases (show j=0\/j=1 by omega) with rfl|rfl
  ·have hj0:=HJ.out;obtain rfl:w0=wr:=hj0;clear HJ;go_upto_block 2 with fail
   rw [show ((0:Nat):Int)=0 from rfl];go_wp2_with fail
   go_loopw [6] (λs6 wr=> ∃(u:Nat) (a:Option Addr) (k c:Nat),u<=1000000000000/\s6= .int .u64 (u:Int)/\Hid (J01 w0 wr b n u a k c)) (λs6 _=>(intOf s6).toNat)
   case atStart=>exact ⟨n,none,0,0,HN.out,rfl,zz ⟨[],rfl,rfl,Mer.Own.nil _ _ _,λg h=>(by cases h),Kp.refl _ _,HB.out⟩⟩
   case round=>
    obtain ⟨u,a,k,c',hu,rfl,HR⟩:=hrel;obtain ⟨xs,hk,hnum,hown,hfr,hkp,hbk⟩:=HR.out
    have hkl:k<=6:=by
     have h1:=Il HN.out;rw [hnum,List.length_append] at h1;omega
    have c0:=Q4 hbk 0;simp at c0
    clear HR d1 d3 d4 hmod hg;by_cases hlt:128<=u
    ·have e1:decide ((128:Int)<=(u:Int))=true:=by rw [decide_eq_true_iff];omega
     have e2:decide (128<=u)=true:=decide_eq_true hlt;obtain ⟨a',c2,w',hrun,ho,hf,hk',hkeep⟩:=Q3q (S:=Mer.One b) w0 wr (.slice a k c') xs (UInt8.ofNat (u % 128+128)) (by rw [hk];exact hown) hfr hkp (by omega);rw [hk] at hrun ho hf;have hb':=hkeep b _ hbk hbl;have cw:=Q4 hb' 0;simp at cw
     have fw:=Qh hb' 0
     have J21:Mer.Own (w'.setCell ⟨b,0,none⟩ (.slice a' (k+1) c2)) 5 1 (.slice a' (k+1) c2) (k+1) (u8s (xs++[UInt8.ofNat (u % 128+128)])):=
      ho.keep ((Kp.refl (Mer.One b) w').setCell (p:=⟨b,0,none⟩) (.inl rfl) _) (λq hq he=>by have:=hf q hq;rw [show q=b from he] at this;omega)
     have J1j:Kp (Mer.One b) w0 (w'.setCell ⟨b,0,none⟩ (.slice a' (k+1) c2)):=hk'.setCell (p:=⟨b,0,none⟩) (.inl rfl) _;have hbS:(w'.setCell ⟨b,0,none⟩ (.slice a' (k+1) c2)).heap[b]?=some (.cells #[.slice a' (k+1) c2] 121 (0,0)):=Ql hb' 0 _;have b3:=Q5g u;rw [<-Lz u] at b3;obtain ⟨z,hz,b4⟩: ∃z:Nat,z=u/128/\(u:Int)/128=(z:Int):=⟨u/128,rfl,(Int.natCast_ediv u 128).symm⟩;have hnew:J01 w0 (w'.setCell ⟨b,0,none⟩ (.slice a' (k+1) c2)) b n z a' (k+1) c2:=⟨xs++[UInt8.ofNat (u % 128+128)],by rw [List.length_append,hk];rfl,by rw [hnum,Eg hlt,hz,List.append_assoc];rfl,J21,hf,J1j,hbS⟩;obtain ⟨x,hx⟩: ∃x:Nat,x=(UInt8.ofNat (u % 128+128)).toNat:=⟨_,rfl⟩;rw [<-hx] at hrun b3;have HX:=zz hrun;have Y4:=zz hnew;have hzu:z<u:=by omega
     clear hz hnum hown hfr hkp hbk hrun ho hf hk' hkeep hb' J21 J1j hbS hnew hx hk;go_wp2_with (at_builtin;refine wpList_append_run rfl rfl rfl rfl HX.out ?_)
     go_roundw
     case rel=>exact ⟨z,a',k+1,c2,by omega,rfl,Y4⟩
     case measure=>simp [intOf];omega
    ·have e1:decide ((128:Int)<=(u:Int))=false:=by rw [decide_eq_false_iff_not];omega
     have e2:decide (128<=u)=false:=by rw [decide_eq_false_iff_not];omega
     have hm:(u:Int) % 256=(u:Int):=Int.emod_eq_of_lt (by omega) (by omega);obtain ⟨a',c2,w',hrun,ho,hf,hk',hkeep⟩:=Q3q (S:=Mer.One b) w0 wr (.slice a k c') xs (UInt8.ofNat u) (by rw [hk];exact hown) hfr hkp (by omega);rw [hk] at hrun ho hf;have hb':=hkeep b _ hbk hbl;have cw:=Q4 hb' 0;simp at cw
     have fw:=Qh hb' 0
     have J21:Mer.Own (w'.setCell ⟨b,0,none⟩ (.slice a' (k+1) c2)) 5 1 (.slice a' (k+1) c2) (k+1) (u8s (xs++[UInt8.ofNat u])):=
      ho.keep ((Kp.refl (Mer.One b) w').setCell (p:=⟨b,0,none⟩) (.inl rfl) _) (λq hq he=>by have:=hf q hq;rw [show q=b from he] at this;omega)
     have J1j:Kp (Mer.One b) w0 (w'.setCell ⟨b,0,none⟩ (.slice a' (k+1) c2)):=hk'.setCell (p:=⟨b,0,none⟩) (.inl rfl) _;have hbS:(w'.setCell ⟨b,0,none⟩ (.slice a' (k+1) c2)).heap[b]?=some (.cells #[.slice a' (k+1) c2] 121 (0,0)):=Ql hb' 0 _;rw [show (UInt8.ofNat u).toNat=u by rw [Ov];omega] at hrun;have hl:Qq n=xs++[UInt8.ofNat u]:=by rw [hnum,Yh (by omega)]
     have hll:(Qq n).length=k+1:=by rw [hl,List.length_append,hk];rfl
     have hfin:J00 w0 (w'.setCell ⟨b,0,none⟩ (.slice a' (k+1) c2)) b n 1:=⟨a',c2,by rw [hll];exact hbS,by rw [hll,hl];exact J21,by rw [hll];exact hf,J1j⟩;have HX:=zz hrun;have Yf:=zz hfin;clear hnum hown hfr hkp hbk hrun ho hf hk' hkeep hb' J21 J1j hbS hfin hk hl hll;go_wp2_with (at_builtin;refine wpList_append_run rfl rfl rfl rfl HX.out ?_)
     go_roundw
     case rel=>exact ⟨1,by omega,rfl,Yf⟩
     case measure=>simp [intOf]
  ·go_wp2_with fail
   exact bodyPost_end (results_none rfl _ _ _) rfl ⟨rfl,HJ.out⟩
def Ug (x y:Int):Int:=if x<y then -1 else if y<x then 1 else 0
def Z6 (m c n d:Int):Int:=if m<n\/(m=n/\c<d) then -1 else if m=n/\c=d then 0 else 1
theorem Qpb (m c n d:Int):Z6 m c n d=if Ug m n≠0 then Ug m n else Ug c d:=by
 unfold Z6 Ug;repeat' split
 all_goals omega
theorem Ec (x:Int) (w:World):Calls Tryz.prog 201 #[.int .i64 x] w λe w'=>e= .returned (.bool false)/\w=w':=by
 go_enter Tryz.func201,Tryz.ntmps201
 go_wp2_with fail
 go_ret
 exact ⟨by simp,rfl⟩
theorem Al (x y:Int) (w:World):Calls Tryz.prog 128 #[.int .i64 x, .int .i64 y] w λe w'=>e= .returned (.int .i64 (Ug x y))/\w=w':=by
 have hv:Ug x y=if x<y then -1 else if y<x then 1 else 0:=rfl
 obtain ⟨r,hr⟩: ∃r,r=Ug x y:=⟨_,rfl⟩;rw [<-hr] at hv⊢;have HV:=zz hv;clear hv hr;rcases Int.lt_trichotomy x y with h|h|h
 ·go_enter Tryz.func128,Tryz.ntmps128
  go_wp2_with fail
  refine (Ec _ _).mono ?_;rintro e w' ⟨rfl,rfl⟩;go_wp2_with fail
  refine (Ec _ _).mono ?_;rintro e w' ⟨rfl,rfl⟩;go_wp2_with fail
  go_ret
  exact ⟨by rw [HV.out,if_pos h];rfl,rfl⟩
 ·subst h;go_enter Tryz.func128,Tryz.ntmps128
  go_wp2_with fail
  refine (Ec _ _).mono ?_;rintro e w' ⟨rfl,rfl⟩;go_wp2_with fail
  refine (Ec _ _).mono ?_;rintro e w' ⟨rfl,rfl⟩;go_wp2_with fail
  go_ret
  exact ⟨by rw [HV.out,if_neg (by omega),if_neg (by omega)];rfl,rfl⟩
 ·go_enter Tryz.func128,Tryz.ntmps128
  go_wp2_with fail
  refine (Ec _ _).mono ?_;rintro e w' ⟨rfl,rfl⟩;go_wp2_with fail
  refine (Ec _ _).mono ?_;rintro e w' ⟨rfl,rfl⟩;go_wp2_with fail
  go_ret
  exact ⟨by rw [HV.out,if_neg (by omega),if_pos h];rfl,rfl⟩
theorem Qd9 (a b:Int) (w:World) (g cap:Nat) (hg:w.heap[g]?=some (.cells #[.int .i64 a, .int .i64 b] 3 (0,0))):
  Calls Tryz.prog 127 #[.slice (some ⟨g,0,none⟩) 2 cap] w λe w'=>e= .returned (.int .i64 (if a≠0 then a else b))/\w=w':=by
 obtain ⟨r,hr⟩: ∃r,r=if a≠0 then a else b:=⟨_,rfl⟩
 rw [<-hr];have c0:=Q4 hg 0;have c1:=Q4 hg 1;simp at c0 c1
 have HR:=zz hr;clear hr hg;go_enter Tryz.func127,Tryz.ntmps127
 go_wp2_with fail
 go_loop [8] (λi=> ∃k:Nat,k<=2/\i= .int .i64 (k:Int)/\(k=0\/a=0)/\(k<=1\/b=0)) (λi=>2-(intOf i).toNat)
 case atStart=>exact ⟨0,by omega,rfl, .inl rfl, .inl (by omega)⟩
 case round=>
  obtain ⟨k,hk,rfl,h0,h1⟩:=hrel;have hk3:k=0\/k=1\/k=2:=by omega
  have HH:=zz (And.intro h0 h1);clear h0 h1;rcases hk3 with rfl|rfl|rfl
  ·by_cases ha:a=0
   ·subst ha;go_wp2_with fail
    go_round
    case rel=>exact ⟨1,by omega,rfl, .inr trivial, .inl (by omega)⟩
    case measure=>simp [intOf]
   ·have hb:(a !=0)=true:=by rw [bne_iff_ne];exact ha
    have HA:=zz ha;clear ha;go_wp2_with fail
    go_ret
    exact ⟨by rw [HR.out,if_pos HA.out];rfl,rfl⟩
  ·obtain rfl:a=0:=HH.out.1.resolve_left (by omega);by_cases ha:b=0
   ·subst ha;go_wp2_with fail
    go_round
    case rel=>exact ⟨2,by omega,rfl, .inr trivial, .inr trivial⟩
    case measure=>simp [intOf]
   ·have hb:(b !=0)=true:=by rw [bne_iff_ne];exact ha
    clear ha;go_wp2_with fail
    go_ret
    exact ⟨by rw [HR.out,if_neg (by omega)];rfl,rfl⟩
  ·obtain rfl:a=0:=HH.out.1.resolve_left (by omega);obtain rfl:b=0:=HH.out.2.resolve_left (by omega);go_wp2_with fail
   go_ret
   exact ⟨by rw [HR.out,if_neg (by omega)];rfl,rfl⟩
theorem Qmn {P:Program} {f:FuncId} {args:Array Value} {w:World} {v:Value} (c: ∀W:World,Calls P f args W λe w'=>e= .returned v/\W=w') (n:Nat):
  Calls P f args (w.drewN n) λe w'=>e= .returned v/\ ∃m,w'=(w.drewN n).drewN m:=
 (c _).mono λ_ _ ⟨h1,h2⟩=>⟨h1,0,by rw [<-h2];rfl⟩
theorem Vn (m c n d:Int) (w:World):Calls Tryz.prog 72 #[Xl m c,Xl n d] w λe w'=>e= .returned (.int .i64 (Z6 m c n d))/\Kp No w w':=by
 have hv:=Qpb m c n d;obtain ⟨r,hr⟩: ∃r,r=Z6 m c n d:=⟨_,rfl⟩;rw [<-hr] at hv⊢;have HV:=zz hv;clear hv hr;go_enter Tryz.func72,Tryz.ntmps72
 go_wp2_with fail
 refine zE [0,1,0,1,1,0,1,0,1,1,2,2,0] [0,2,5,7,1,3,4,6,8,9,10,11,12] ?_;repeat (first|refine zA ?_|refine zB ?_|refine zC ?_)
 refine Q22 rfl rfl rfl (λn=>(by go_simp;try rfl)) (Qmn λW=>Al m n W) (by go_simp;try rfl) ?_;repeat (first|refine zA ?_|refine zB ?_|refine zC ?_)
 refine Q22 rfl rfl rfl (λn=>(by go_simp;try rfl)) (Qmn λW=>Al c d W) (by go_simp;try rfl) ?_;repeat (first|refine zA ?_|refine zB ?_|refine zC ?_)
 refine Q8 rfl rfl (λn1=>?_);go_wp2_with fail
 obtain ⟨W1,hW1⟩: ∃W,W=((w.alloc (.cells #[.int .i64 m, .int .i64 c] 25)).alloc (.cells #[.int .i64 n, .int .i64 d] 25)).drewN n1:=⟨_,rfl⟩;rw [<-hW1];have hk1:Kp No w W1:=by rw [hW1];exact ((zK.alloc _).alloc _).drewN _
 have hs1:W1.heap.size=w.heap.size+1+1:=by rw [hW1];simp
 have hg:=heap_alloc_new W1 (.cells #[.int .i64 (Ug m n), .int .i64 (Ug c d)] 3);rw [hs1] at hg;have hk2:Kp No w (W1.alloc (.cells #[.int .i64 (Ug m n), .int .i64 (Ug c d)] 3)):=hk1.alloc _;have hOr:=λn2=>Qd9 (Ug m n) (Ug c d) ((W1.alloc (.cells #[.int .i64 (Ug m n), .int .i64 (Ug c d)] 3)).drewN n2) (w.heap.size+1+1) 2 hg;rw [<-HV.out] at hOr;have HO:=zz hOr;clear hW1 hg hs1 hOr;refine Q8 rfl rfl (λn2=>?_);go_wp2_with fail
 refine (HO.out n2).mono ?_;rintro e w' ⟨rfl,rfl⟩;go_wp2_with fail
 repeat (first|refine zA ?_|refine zB ?_|refine zC ?_)
 refine Qa (λnq=>?_);go_wp2_with fail
 go_ret
 exact ⟨rfl,(hk2.drewN _).drewN _⟩
abbrev Qha (m c o:Int) (v:Value) (g:Bool) (ttl:Int):Value:= .agg #[.int .i64 m, .int .i64 c, .int .i64 o,v, .bool g, .int .i64 ttl]
def Q5h (m c o m' c' o':Int):Int:=if Z6 m c m' c'≠0 then Z6 m c m' c' else Ug o o'
def Bi (m c:Int) (gone:Bool) (ttl t1 t2:Int):Bool:=decide (Z6 m c t1 t2<=0)&&!gone&&(ttl==0||decide (wrap64 (t1-m)<ttl))
theorem Qgf (m c o:Int) (v:Value) (g:Bool) (tt:Int) (m' c' o':Int) (v':Value) (g':Bool) (Qwv:Int) (w:World):
  Calls Tryz.prog 191 #[Qha m c o v g tt,Qha m' c' o' v' g' Qwv] w λe w'=>e= .returned (.int .i64 (Q5h m c o m' c' o'))/\Kp No w w':=by
 obtain ⟨r,hr⟩: ∃r,r=Q5h m c o m' c' o':=⟨_,rfl⟩;rw [<-hr];obtain ⟨W1,hW1⟩: ∃W1,W1=(w.alloc (.cells #[.int .i64 m, .int .i64 c, .int .i64 o,v, .bool g, .int .i64 tt] 44)).alloc (.cells #[.int .i64 m', .int .i64 c', .int .i64 o',v', .bool g', .int .i64 Qwv] 44):=⟨_,rfl⟩;have H1:Kp No w W1:=by rw [hW1];exact (zK.alloc _).alloc _
 have b1:W1.heap[w.heap.size]?=some (.cells #[.int .i64 m, .int .i64 c, .int .i64 o,v, .bool g, .int .i64 tt] 44 (0,0)):=by rw [hW1];exact Jm (heap_alloc_new w _) _
 have b2:W1.heap[w.heap.size+1]?=some (.cells #[.int .i64 m', .int .i64 c', .int .i64 o',v', .bool g', .int .i64 Qwv] 44 (0,0)):=by rw [hW1];exact (congrArg (λk=>((w.alloc _).alloc _).heap[k]?) (by simp)).trans (heap_alloc_new (w.alloc _) _)
 have c0: ∀W,Kp No W1 W->W.cell? ⟨w.heap.size,0,none⟩=some (.int .i64 m):=λW h=>by rw [Q4 (h.get b1 λx=>x)];rfl
 have c1: ∀W,Kp No W1 W->W.cell? ⟨w.heap.size,1,none⟩=some (.int .i64 c):=λW h=>by rw [Q4 (h.get b1 λx=>x)];rfl
 have c2: ∀W,Kp No W1 W->W.cell? ⟨w.heap.size,2,none⟩=some (.int .i64 o):=λW h=>by rw [Q4 (h.get b1 λx=>x)];rfl
 have e0: ∀W,Kp No W1 W->W.cell? ⟨w.heap.size+1,0,none⟩=some (.int .i64 m'):=λW h=>by rw [Q4 (h.get b2 λx=>x)];rfl
 have e1: ∀W,Kp No W1 W->W.cell? ⟨w.heap.size+1,1,none⟩=some (.int .i64 c'):=λW h=>by rw [Q4 (h.get b2 λx=>x)];rfl
 have e2: ∀W,Kp No W1 W->W.cell? ⟨w.heap.size+1,2,none⟩=some (.int .i64 o'):=λW h=>by rw [Q4 (h.get b2 λx=>x)];rfl
 have HR:=zz (show r=if Z6 m c m' c'≠0 then Z6 m c m' c' else Ug o o' from hr);have HH:=zz H1;clear b1 b2 hr H1;go_enter Tryz.func191,Tryz.ntmps191
 go_wp2_with fail
 rw [<-hW1];clear hW1;refine zD No [0,0,0,0,2,0,0,0,0,2,2,2,0] [0,1,2,3,5,6,7,8,4,9,10,11,12] ?_;repeat (first|refine zA ?_|refine zB ?_|refine zC ?_)
 refine Q8 rfl rfl (λn1=>?_);go_wp2_with fail
 refine (Vn m c m' c' _).mono ?_;rintro e w2 ⟨rfl,hk2⟩;have h2:Kp No W1 w2:=hk2.Qf;clear hk2;go_wp2_with fail
 repeat (first|refine zA ?_|refine zB ?_|refine zC ?_)
 refine Q8 rfl rfl (λn2=>?_);go_wp2_with fail
 refine (Al o o' _).mono ?_;rintro e w3 ⟨rfl,rfl⟩;have h3:Kp No W1 (w2.drewN n2):=h2.drewN n2;go_wp2_with fail
 obtain ⟨W3,hW3⟩: ∃W,W=w2.drewN n2:=⟨_,rfl⟩;rw [<-hW3] at h3
 (try rw [<-hW3])
 clear h2 hW3;refine Q8 rfl rfl (λn3=>?_);go_wp2_with fail
 refine ⟨(h3.drewN n3).alloc _,?_⟩;have hg:=heap_alloc_new (W3.drewN n3) (.cells #[.int .i64 (Z6 m c m' c'), .int .i64 (Ug o o')] 3);have hOr:=λn4=>Qd9 (Z6 m c m' c') (Ug o o') (((W3.drewN n3).alloc (.cells #[.int .i64 (Z6 m c m' c'), .int .i64 (Ug o o')] 3)).drewN n4) W3.heap.size 2 hg;rw [<-HR.out] at hOr;have h4:Kp No W1 ((W3.drewN n3).alloc (.cells #[.int .i64 (Z6 m c m' c'), .int .i64 (Ug o o')] 3)):=(h3.drewN n3).alloc _;have HO:=zz hOr;clear hg hOr h3 c0 c1 c2 e0 e1 e2;refine Q8 rfl rfl (λn4=>?_);go_wp2_with fail
 refine (HO.out n4).mono ?_;rintro e w' ⟨rfl,rfl⟩;have h5:=h4.drewN n4;clear h4;go_wp2_with fail
 repeat (first|refine zA ?_|refine zB ?_|refine zC ?_)
 refine Qa (λnq=>?_);have H5:=zz (HH.out.Q0 h5);clear h5;go_wp2_with fail
 go_ret
 exact ⟨rfl,H5.out.drewN _⟩
theorem Qj2 (m c o:Int) (v:Value) (g:Bool) (tt t1 t2:Int) (w:World):
  Calls Tryz.prog 134 #[Qha m c o v g tt,Xl t1 t2] w λe w'=>e= .returned (.bool (Bi m c g tt t1 t2))/\Kp No w w':=by
 obtain ⟨r,hr⟩: ∃r,r=Bi m c g tt t1 t2:=⟨_,rfl⟩;rw [<-hr];have hcc:=λW=>Vn m c t1 t2 W;obtain ⟨q,hq⟩: ∃q,q=Z6 m c t1 t2:=⟨_,rfl⟩;unfold Bi at hr;rw [<-hq] at hr hcc;have HC:=zz hcc;have HR:=zz hr;clear hr hcc hq;obtain ⟨W1,hW1⟩: ∃W1,W1=(w.alloc (.cells #[.int .i64 m, .int .i64 c, .int .i64 o,v, .bool g, .int .i64 tt] 44)).alloc (.cells #[.int .i64 t1, .int .i64 t2] 25):=⟨_,rfl⟩;have H1:Kp No w W1:=by rw [hW1];exact (zK.alloc _).alloc _
 have b1:W1.heap[w.heap.size]?=some (.cells #[.int .i64 m, .int .i64 c, .int .i64 o,v, .bool g, .int .i64 tt] 44 (0,0)):=by rw [hW1];exact Jm (heap_alloc_new w _) _
 have b2:W1.heap[w.heap.size+1]?=some (.cells #[.int .i64 t1, .int .i64 t2] 25 (0,0)):=by rw [hW1];exact (congrArg (λk=>((w.alloc _).alloc _).heap[k]?) (by simp)).trans (heap_alloc_new (w.alloc _) _)
 have HH:=zz H1;have HB1:=zz b1;have HB2:=zz b2;clear b1 b2 H1;go_enter Tryz.func134,Tryz.ntmps134
 go_wp2_with fail
 rw [<-hW1];clear hW1;refine (HC.out _).mono ?_;rintro e W2 ⟨rfl,hk2⟩;have J9:=zz (HH.out.Q0 hk2);have b1:=hk2.get HB1.out λx=>x;have b2:=hk2.get HB2.out λx=>x;have c0:W2.cell? ⟨w.heap.size,0,none⟩=some (.int .i64 m):=by rw [Q4 b1];rfl
 have c4:W2.cell? ⟨w.heap.size,4,none⟩=some (.bool g):=by rw [Q4 b1];rfl
 have c5:W2.cell? ⟨w.heap.size,5,none⟩=some (.int .i64 tt):=by rw [Q4 b1];rfl
 have e0:W2.cell? ⟨w.heap.size+1,0,none⟩=some (.int .i64 t1):=by rw [Q4 b2];rfl
 clear b1 b2 hk2;by_cases h1:q<=0
 ·have d1:decide (q<=0)=true:=decide_eq_true h1;have D1:=zz d1;clear h1;cases g with
  |true=>
   go_wp2_with fail
   go_ret
   exact ⟨by rw [HR.out,D1.out];rfl,J9.out⟩
  |false=>
   by_cases h2:tt=0
   ·subst h2;go_wp2_with fail
    go_ret
    exact ⟨by rw [HR.out,D1.out];rfl,J9.out⟩
   ·have d2:(tt==0)=false:=by simp [h2]
    have D2:=zz d2;clear h2;go_wp2_with fail
    go_ret
    exact ⟨by rw [HR.out,D1.out,D2.out];rfl,J9.out⟩
 ·have d1:decide (q<=0)=false:=decide_eq_false h1;have D1:=zz d1;clear h1;go_wp2_with fail
  go_ret
  exact ⟨by rw [HR.out,D1.out];rfl,J9.out⟩
end Go.Proofs.YtgnkmjeoaoongaaGreatDoor
