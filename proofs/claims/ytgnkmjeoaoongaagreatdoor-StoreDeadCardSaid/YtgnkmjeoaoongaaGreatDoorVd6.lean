/- store -/
import Derived.Test.YtgnkmjeoaoongaaGreatDoorVd5
set_option maxRecDepth 100000
set_option maxHeartbeats 4000000
open List (not_mem_nil nodup_nil getElem?_eq_getElem mem_map)
namespace Go.Proofs.YtgnkmjeoaoongaaGreatDoor
open Go.RowKit Go.Mer
theorem Qm6 (w:World) (l d:Nat) (P:ByteArray) (st:Jf) (G:Nat->Prop) (h:Gh w l d P st G) (h1:st.Qi.length<=1000000) (h2:st.synced<=1000000):
  Calls Tryz.prog 100 #[.pointer (some ⟨l,0,none⟩)] w λe w'=>e= .returned (.tuple #[.int .i64 ((st.Qi.length+1:Nat):Int), .int .i64 ((st.synced+1:Nat):Int)])/\Kp No w w':=by
 obtain ⟨sv,ev,E,hC,hE,Q0c,Ku⟩:=h;obtain ⟨ea,ec,rfl,Qob,_⟩:=hC.Qi.rd;obtain ⟨_,_,_,c3,c4,_,_⟩:=hC.cells;have hll:=Q7 hC.cell;have hn:st.Qi.length=E.length:=by rw [hE,List.length_map]
 rw [hn] at h1⊢;obtain ⟨n,hn2⟩: ∃n,n=E.length:=⟨_,rfl⟩;rw [<-hn2] at h1 c3⊢;obtain ⟨y,hy⟩: ∃y,y=st.synced:=⟨_,rfl⟩;rw [<-hy] at h2 c4⊢;clear hC hE Q0c Ku hn hn2 hy Qob;have Jin: ∀m,(w.drewN m).cell? ⟨l,3,none⟩=some (.slice ea n ec):=λm=>c3 _ (zK.drewN m);have Jio: ∀m,(w.drewN m).cell? ⟨l,4,none⟩=some (.int .i64 (y:Int)):=λm=>c4 _ (zK.drewN m);go_enter Tryz.func100,Tryz.ntmps100
 go_upto_region 1 with fail
 go_wp2_with fail
 refine zD No [0,0,0,0,1,0,0,0,0,0,0,0,0] [0,1,2,3,6,7,8,9,10,4,5,11,12] ?_;repeat (first|refine zA ?_|refine zB ?_|refine zC ?_)
 refine Qa (λnq=>?_);go_wp2_with fail
 go_ret2
 exact ⟨by rw [Int.natCast_add,Int.natCast_add];rfl,(Kp.refl No w).drewN nq⟩
theorem Qb0 (w:World) (o1 o2 o3 o4:Obj):((((w.alloc o1).alloc o2).alloc o3).alloc o4).heap.size=w.heap.size+1+1+1+1/\((((w.alloc o1).alloc o2).alloc o3).alloc o4).heap[w.heap.size]?=some o1/\((((w.alloc o1).alloc o2).alloc o3).alloc o4).heap[w.heap.size+1]?=some o2/\
  ((((w.alloc o1).alloc o2).alloc o3).alloc o4).heap[w.heap.size+1+1]?=some o3/\((((w.alloc o1).alloc o2).alloc o3).alloc o4).heap[w.heap.size+1+1+1]?=some o4:=by
 have s1:(w.alloc o1).heap.size=w.heap.size+1:=by simp
 have s2:((w.alloc o1).alloc o2).heap.size=w.heap.size+1+1:=by simp
 have s3:(((w.alloc o1).alloc o2).alloc o3).heap.size=w.heap.size+1+1+1:=by simp
 have h1:=heap_alloc_new w o1;have h2:=heap_alloc_new (w.alloc o1) o2;have h3:=heap_alloc_new ((w.alloc o1).alloc o2) o3;have h4:=heap_alloc_new (((w.alloc o1).alloc o2).alloc o3) o4;rw [s1] at h2;rw [s2] at h3;rw [s3] at h4;exact ⟨by simp,Jm (Jm (Jm h1 _) _) _,Jm (Jm h2 _) _,Jm h3 _,h4⟩
theorem Q5f {s m k:Nat} (h:Ve s m [] none 0 [] k):k=s\/k=m:=by
 rcases h with h|h|⟨p,hp,_⟩|h|⟨x,hx,_⟩
 ·exact .inl h
 ·exact .inr h
 ·exact absurd hp not_mem_nil
 ·simp [Value.ownBlock] at h
 ·exact absurd hx not_mem_nil
theorem Qpr {w:World} {m:Nat} (hm:w.heap[m]?=some (.map #[] 0)):U2 Value.string w m []:=by
 have h:=U2.made Value.string w;obtain ⟨es,ck,h1,h2,h3⟩:=h;have h4:=heap_alloc_new w (.map #[] 0);rw [h1] at h4;injection h4 with h4;injection h4 with h5 h6;subst h5;subst h6;exact ⟨#[],0,hm,h2,h3⟩
theorem Qqs {w:World} {s d l o m:Nat} {P:ByteArray} (hs:w.heap[s]?=some (.cells #[.pointer (some ⟨d,0,none⟩), .pointer (some ⟨l,0,none⟩), .string P, .int .i64 (o:Int), .int .i64 0, .int .i64 0, .bool false, .map (some m), .int .i64 0, .int .i64 0,
  .int .i64 0, .int .i64 0, .int .i64 0, .int .i64 0, .int .i64 0, .int .i64 0, .int .i64 0, .int .i64 0, .int .i64 0, .int .i64 0, .int .i64 0, .int .i64 0, .int .i64 0, .int .i64 0, .int .i64 0, .slice none 0 0] 133 (0,0))) (hm:w.heap[m]?=some (.map #[] 0)):X6 w s d l P o Er m [] none 0 []:=
 ⟨hs,Qpr hm,⟨λ_ hp=>absurd hp not_mem_nil,nodup_nil,nodup_nil,nodup_nil⟩,⟨Own.nil _ _ _,λ_ hx=>absurd hx not_mem_nil⟩,List.Perm.refl _,rfl⟩
def Qo7 (T:Nat->Prop) (s:Nat) (w W:World):Prop:=Kp T w W/\W.cell? ⟨s,4,none⟩=some (.int .i64 0)
theorem Q92 (w:World) (d:Nat) (P:ByteArray) (o:Nat) (ds:Qz) (F:Nat->Prop) (hD:Zd w d ds F) (hds:ds.files=[]) (Yo:Pow w) (Q65: ¬F 0) (hP1:1<=P.size) (hP2:P.size<=20) (hroom:ds.room<=1048576) (ho:o<5):
  Calls Tryz.prog 44 #[.pointer (some ⟨d,0,none⟩), .string P, .int .i64 (o:Int)] w λe w'=> ∃s l m F' G',e= .returned (.tuple #[.pointer (some ⟨s,0,none⟩), .int .i64 0])/\Q6n w' s d l P (Zj P 0) o Er m [] none 0 [] ds st0 F' G'/\
   Je F F' w/\(∀k,G' k->w.heap.size<=k)/\(∀k,Ve s m [] none 0 [] k->w.heap.size<=k)/\Kp F w w':=by
 have hmf: ∀(fn:Fn) (first cap:Array Value) (w:World),(Instr.makeFunc fn first cap).run Tryz.prog w= .ok (.func fn first cap) w:=λ_ _ _ _=>rfl;have hmm:= @run_makeMap Tryz.prog;have e1:decide (1<=(P.size:Int))=true:=decide_eq_true (by omega);have e2:decide ((P.size:Int)<=20)=true:=decide_eq_true (by omega);have e3:decide (0<=(o:Int))=true:=decide_eq_true (by omega);have e4:decide ((o:Int)<5)=true:=decide_eq_true (by omega);have e1':decide (1<=P.size)=true:=decide_eq_true hP1;have e2':decide (P.size<=20)=true:=decide_eq_true hP2;have e4':decide (o<5)=true:=decide_eq_true ho;have HD:=zz hD;have Qet:=zz hds;have Dd:=zz (And.intro Yo Q65);have Qu9:=zz (And.intro hroom (And.intro hP1 (And.intro hP2 ho)));clear hD hds Yo Q65 hroom;go_enter_defers Tryz.func44,Tryz.ntmps44
 go_wp2_with fail
 refine (N7 1 _).mono ?_;rintro e wx ⟨rfl,rfl⟩;go_upto_region 4 with fail
 obtain ⟨b0,hb0⟩: ∃b0,b0=w.heap.size:=⟨_,rfl⟩;rw [<-hb0]
 obtain ⟨W4,Mz⟩: ∃W,W=((((w.alloc (.cells #[.pointer (some ⟨b0+1+1+1,0,none⟩)] 35)).alloc (.cells #[.int .i64 0] 47)).alloc (.map #[] 0)).alloc (.cells #[.pointer (some ⟨d,0,none⟩), .pointer none, .string P, .int .i64 (o:Int), .int .i64 0, .int .i64 0, .bool false, .map (some (b0+1+1)), .int .i64 0, .int .i64 0,
  .int .i64 0, .int .i64 0, .int .i64 0, .int .i64 0, .int .i64 0, .int .i64 0, .int .i64 0, .int .i64 0, .int .i64 0, .int .i64 0, .int .i64 0, .int .i64 0, .int .i64 0, .int .i64 0, .int .i64 0, .slice none 0 0] 133)):=⟨_,rfl⟩
 have h4:=Qb0 w (.cells #[.pointer (some ⟨b0+1+1+1,0,none⟩)] 35) (.cells #[.int .i64 0] 47) (.map #[] 0) (.cells #[.pointer (some ⟨d,0,none⟩), .pointer none, .string P, .int .i64 (o:Int), .int .i64 0, .int .i64 0, .bool false, .map (some (b0+1+1)), .int .i64 0, .int .i64 0,
  .int .i64 0, .int .i64 0, .int .i64 0, .int .i64 0, .int .i64 0, .int .i64 0, .int .i64 0, .int .i64 0, .int .i64 0, .int .i64 0, .int .i64 0, .int .i64 0, .int .i64 0, .int .i64 0, .int .i64 0, .slice none 0 0] 133)
 rw [<-Mz,<-hb0] at h4;rw [<-Mz];have k4:Kp No w W4:=by rw [Mz];exact ((((Kp.refl No w).alloc _).alloc _).alloc _).alloc _
 have hs4:W4.heap.size=b0+1+1+1+1:=h4.1;have Qxr:W4.heap[b0]?=some (.cells #[.pointer (some ⟨b0+1+1+1,0,none⟩)] 35 (0,0)):=h4.2.1;have J6w:W4.heap[b0+1]?=some (.cells #[.int .i64 0] 47 (0,0)):=h4.2.2.1;have J4d:W4.heap[b0+1+1]?=some (.map #[] 0):=h4.2.2.2.1
 have Qxs:W4.heap[b0+1+1+1]?=some (.cells #[.pointer (some ⟨d,0,none⟩), .pointer none, .string P, .int .i64 (o:Int), .int .i64 0, .int .i64 0, .bool false, .map (some (b0+1+1)), .int .i64 0, .int .i64 0,
  .int .i64 0, .int .i64 0, .int .i64 0, .int .i64 0, .int .i64 0, .int .i64 0, .int .i64 0, .int .i64 0, .int .i64 0, .int .i64 0, .int .i64 0, .int .i64 0, .int .i64 0, .int .i64 0, .int .i64 0, .slice none 0 0] 133 (0,0)):=h4.2.2.2.2
 clear h4;obtain ⟨b1,hb1⟩: ∃b1,b1=b0+1:=⟨_,rfl⟩;rw [<-hb1] at Qxr J6w J4d Qxs hs4⊢;obtain ⟨m,hm⟩: ∃m,m=b1+1:=⟨_,rfl⟩;rw [<-hm] at Qxr J4d Qxs hs4⊢;obtain ⟨s,hs⟩: ∃s,s=m+1:=⟨_,rfl⟩;rw [<-hs] at Qxr Qxs hs4⊢;have HB:=zz (And.intro hb0 (And.intro hb1 (And.intro hm hs)));have H4:=zz (And.intro k4 (And.intro hs4 (And.intro Qxr (And.intro J6w (And.intro J4d Qxs)))));have hsb:b0≠s:=by omega
 have fa: ∀W,Kp (Mer.One s) W4 W->W.cell? ⟨b0,0,none⟩=some (.pointer (some ⟨s,0,none⟩)):=λW hW=>Q4 (hW.get Qxr hsb) 0;have hsl:=Q7 Qxs;obtain ⟨A,hA⟩: ∃A:ByteArray,A=P++⟨#[97,103,101]⟩:=⟨_,rfl⟩;have Qaf:=zz (show ∀W,Kp No W4 W->Calls Tryz.prog 94 #[.pointer (some ⟨d,0,none⟩), .string A] W λe w'=>e= .returned (.int .i64 0)/\Kp No W w' from λW hW=>Q5k (HD.out.Q9 (k4.Q0 hW)) A (by rw [Qet.out];rfl));have J9y:=zz hA.symm;clear hA;have Jiy:=Qu9.out.2.2.1;clear hb0 hb1 hm hs k4 hs4 Qxr J6w J4d Qxs Mz hsb;refine zD (Mer.One s) [0,0,0,0,2,0,0,2] [0,1,2,3,4,5,6,7] ?_;repeat (first|refine zA ?_|refine zB ?_|refine zC ?_)
 refine Qb rfl rfl rfl (v:= .string (P++⟨#[97,103,101]⟩)) ?_ rfl ?_
 ·intro _ _;go_simp
  omega
 rw [J9y.out];refine Q8 rfl rfl (λq1=>?_);go_wp2_with fail
 refine (Qaf.out _ ((Kp.refl No W4).drewN q1)).mono ?_;rintro e w5 ⟨rfl,k5⟩;have Q66:Kp No W4 w5:=k5.Qf;clear k5;go_wp2_with fail
 (try refine ⟨Kp.Qx Q66,?_⟩)
 repeat (first|refine zA ?_|refine zB ?_|refine zC ?_)
 refine Q8 rfl rfl (λq2=>?_);obtain ⟨w6,hw6⟩: ∃W,W=w5.drewN q2:=⟨_,rfl⟩;have J8v:Kp No W4 w6:=by rw [hw6];exact Q66.drewN q2
 have J0h:=J8v.get H4.out.2.2.2.2.2 λx=>x;have f4:=Qh J0h 4;have c4:w6.cell? ⟨s,4,none⟩=some (.int .i64 0):=Q4 J0h 4;have hs6:=Q7 J0h;rw [<-hw6];have Fw:=zz J8v;have J9x:=zz J0h;clear hw6 Q66 J8v J0h;go_wp2_with fail
 have Gz:Kp (Mer.One s) W4 (w6.setCell ⟨s,4,none⟩ (.int .i64 0)):=(Kp.Qx Fw.out).setCell (p:=⟨s,4,none⟩) (.inl (show Mer.One s s from rfl)) _;refine ⟨Gz,?_⟩;refine Qa (λnq=>?_);obtain ⟨w7,hw7⟩: ∃W,W=(w6.setCell ⟨s,4,none⟩ (.int .i64 0)).drewN nq:=⟨_,rfl⟩;have k7:Kp (Mer.One s) W4 w7:=by rw [hw7];exact Gz.drewN nq
 have Jbc:w7.heap[s]?=some (.cells #[.pointer (some ⟨d,0,none⟩), .pointer none, .string P, .int .i64 (o:Int), .int .i64 0, .int .i64 0, .bool false, .map (some m), .int .i64 0, .int .i64 0,
  .int .i64 0, .int .i64 0, .int .i64 0, .int .i64 0, .int .i64 0, .int .i64 0, .int .i64 0, .int .i64 0, .int .i64 0, .int .i64 0, .int .i64 0, .int .i64 0, .int .i64 0, .int .i64 0, .int .i64 0, .slice none 0 0] 133 (0,0)):=by
  rw [hw7];exact Ql J9x.out 4 (.int .i64 0)
 rw [<-hw7];have hbs:b0≠s/\b1≠s/\m≠s:=by have:=HB.out;omega
 have H7:=zz (And.intro Jbc (And.intro (k7.get H4.out.2.2.1 hbs.1) (And.intro (k7.get H4.out.2.2.2.1 hbs.2.1) (And.intro (k7.get H4.out.2.2.2.2.1 hbs.2.2) (show Kp No w w7 from (H4.out.1.trans k7 λi hi e=>by
  have h1:=HB.out;have e:i=s:=e;omega))))))
 clear hw7 k7 Gz Jbc hbs f4 c4 hs6 Fw J9x fa hsl Qaf H4 J9y;go_wp2_with fail
 refine (Q0v (HD.out.Q9 H7.out.2.2.2.2) Qet.out).mono ?_;rintro e w8 ⟨na,nc,rfl,k8⟩;have H8:=zz (And.intro (k8.get H7.out.1 λx=>x) (And.intro (k8.get H7.out.2.1 λx=>x) (And.intro (k8.get H7.out.2.2.1 λx=>x) (And.intro (k8.get H7.out.2.2.2.1 λx=>x) (H7.out.2.2.2.2.Q0 k8)))));clear k8 H7;go_wp2_with fail
 go_loop [54] (λz=>z= .int .i64 0) (λ_=>0)
 case atStart=>rfl
 case round=>
  obtain rfl:=hrel;go_upto_region 12 with fail
  have hb:=HB.out;have Bx:=HD.out.lt;have Qke:b0≠s/\b0≠b1/\ ¬F b0:=⟨by omega,by omega,λhf=>by have:=Bx b0 hf;omega⟩;have Qi4: ¬F s/\ ¬F b1/\ ¬F m:=⟨λhf=>by have:=Bx s hf;omega,λhf=>by have:=Bx b1 hf;omega,λhf=>by have:=Bx m hf;omega⟩;obtain ⟨T,hT⟩: ∃T:Nat->Prop,∀i,T i↔(i=s\/i=b1\/F i):=⟨_,λ_=>Iff.rfl⟩;have Jb4:w8.cell? ⟨s,4,none⟩=some (.int .i64 0):=Q4 H8.out.1 4;have fa: ∀W,Qo7 T s w8 W->W.cell? ⟨b0,0,none⟩=some (.pointer (some ⟨s,0,none⟩)):=λW hW=>Q4 (hW.1.get H8.out.2.1 λh=>((hT _).1 h).elim Qke.1 λh=>h.elim Qke.2.1 Qke.2.2) 0;have f4: ∀W,Qo7 T s w8 W->W.cell? ⟨s,4,none⟩=some (.int .i64 0):=λW hW=>hW.2;have hdr: ∀(W:World) (n:Nat),Qo7 T s w8 W->Qo7 T s w8 (W.drewN n):=λW n h=>⟨h.1.drewN n,h.2⟩;have hst:Qo7 T s w8 w8:=⟨Kp.refl _ _,Jb4⟩;obtain ⟨Q,hQ⟩: ∃Q,Q=Zj P 0:=⟨_,rfl⟩
  have hln: ∀W,Kp No w8 W->Calls Tryz.prog 97 #[.string P, .int .i64 0] W λe w'=>e= .returned (.string Q)/\Kp No W w':=λW hW=>by
   rw [hQ];exact Q86 P (by have:=Qu9.out.2.2.1;omega) 0 (by decide) W (Dd.out.1.keep (H8.out.2.2.2.2.Q0 hW))
  have hwo: ∀W,Kp No w8 W->Calls Tryz.prog 99 #[.pointer (some ⟨d,0,none⟩), .string Q] W λe w'=> ∃l F' G',e= .returned (.tuple #[.pointer (some ⟨l,0,none⟩), .int .i64 0])/\C0 w' d l Q ds st0 F' G'/\Je F F' W/\(∀k,G' k->W.heap.size<=k)/\Kp F W w':=λW hW=>by
   rw [hQ];exact Qco (HD.out.Q9 (H8.out.2.2.2.2.Q0 hW)) Qet.out Qu9.out.2.2.1
  have Em:=zz hln;have Jas:=zz hwo;have HT:=zz hT;have HQ:=zz hQ;have Qid:=zz (And.intro Qke (And.intro Qi4 Bx));clear hln hwo hT hQ Qke Qi4 Bx hb Jb4;refine Xb (Qo7 T s w8) [0,0,0,0,0,0,0,2,2,0,0,0,0,0,2,2] [0,1,2,3,4,5,6,7,8,9,10,11,12,13,14,15] (by kernel_rfl) (by kernel_rfl) (λW n h=>hdr W n h) hst ?_;clear hst hdr;repeat (first|refine zA ?_|refine zB ?_|refine zC ?_)
  refine Q8 rfl rfl (λq1=>?_);go_wp2_with fail
  refine (Em.out _ ((Kp.refl No w8).drewN q1)).mono ?_;rintro e w9 ⟨rfl,k9⟩;have Qlk:Kp No w8 w9:=k9.Qf;clear k9;go_wp2_with fail
  have hs9:Qo7 T s w8 w9:=⟨Kp.Qx Qlk,Q4 (Qlk.get H8.out.1 λx=>x) 4⟩
  (try refine ⟨hs9,?_⟩)
  clear hs9;repeat (first|refine zA ?_|refine zB ?_|refine zC ?_)
  refine Q8 rfl rfl (λq2=>?_);go_wp2_with fail
  refine (Jas.out _ (Qlk.drewN q2)).mono ?_;rintro e wa ⟨l,F1,G1,rfl,J0s,hF1,hG1,ka⟩;have J4r:Kp F w8 wa:=(Kp.Qx (Qlk.drewN q2)).Q0 ka;have has:wa.heap[s]?=_:=J4r.get H8.out.1 Qid.out.2.1.1;have hsa:Qo7 T s w8 wa:=⟨J4r.mono λ_ _ h=>(HT.out _).2 (.inr (.inr h)),Q4 has 4⟩;have Dc:=zz (And.intro Qlk (And.intro J4r (And.intro J0s (And.intro hF1 hG1))));have HAS:=zz has;clear Qlk ka J4r J0s hF1 hG1 has;go_wp2_with fail
  (try refine ⟨hsa,?_⟩)
  clear hsa;repeat (first|refine zA ?_|refine zB ?_|refine zC ?_)
  refine Q8 rfl rfl (λq3=>?_);obtain ⟨wb,hwb⟩: ∃W,W=wa.drewN q3:=⟨_,rfl⟩;have Qwe:Kp No wa wb:=by rw [hwb];exact (Kp.refl No wa).drewN q3
  have hbs:=Qwe.get HAS.out λx=>x;have g1:wb.cell? ⟨s,1,none⟩=some (.pointer none):=Q4 hbs 1;have z1:=Qh hbs 1;have l1:=Q7 hbs;have Ja0:=zz hbs;have HKB:=zz Qwe;rw [<-hwb];clear hwb Qwe hbs;go_wp2_with fail
  obtain ⟨wc,hwc⟩: ∃W,W=wb.setCell ⟨s,1,none⟩ (.pointer (some ⟨l,0,none⟩)):=⟨_,rfl⟩;have Qxz:Kp (Mer.One s) wb wc:=by rw [hwc];exact (Kp.refl (Mer.One s) wb).setCell (p:=⟨s,1,none⟩) (.inl (show Mer.One s s from rfl)) _
  have hcs:wc.heap[s]?=some (.cells #[.pointer (some ⟨d,0,none⟩), .pointer (some ⟨l,0,none⟩), .string P, .int .i64 (o:Int), .int .i64 0, .int .i64 0, .bool false, .map (some m), .int .i64 0, .int .i64 0,
  .int .i64 0, .int .i64 0, .int .i64 0, .int .i64 0, .int .i64 0, .int .i64 0, .int .i64 0, .int .i64 0, .int .i64 0, .int .i64 0, .int .i64 0, .int .i64 0, .int .i64 0, .int .i64 0, .int .i64 0, .slice none 0 0] 133 (0,0)):=by rw [hwc];exact Ql Ja0.out 1 (.pointer (some ⟨l,0,none⟩))
  have J92:Kp (Mer.One s) wa wc:=(Kp.Qx HKB.out).Q0 Qxz;have hsc:Qo7 T s w8 wc:=⟨(Dc.out.2.1.mono (T:=T) λ_ _ h=>(HT.out _).2 (.inr (.inr h))).Q0 (J92.mono λi _ h=>(HT.out _).2 (.inl h)),Q4 hcs 4⟩;rw [<-hwc];have Q2i:=zz J92;have J3p:=zz hcs;clear hwc Qxz J92 hcs g1 z1 l1 Ja0 HKB
  (try refine ⟨hsc,?_⟩)
  clear hsc;repeat (first|refine zA ?_|refine zB ?_|refine zC ?_)
  refine Q8 rfl rfl (λq4=>?_);obtain ⟨wd,hwd⟩: ∃W,W=wc.drewN q4:=⟨_,rfl⟩;have J4s:Kp No wc wd:=by rw [hwd];exact (Kp.refl No wc).drewN q4
  have J2e:b1≠s:=by have:=HB.out;omega
  have hab:wa.heap[b1]?=_:=Dc.out.2.1.get H8.out.2.2.1 Qid.out.2.1.2.1
  have hde:wd.heap[b1]?=some (.cells #[.int .i64 0] 47 (0,0)):=by
   exact J4s.get (Q2i.out.get hab λe=>J2e e) λx=>x
  have hds:=J4s.get J3p.out λx=>x;have g2:wd.cell? ⟨b1,0,none⟩=some (.int .i64 0):=Q4 hde 0;have z2:=Qh hde 0;have l2:=Q7 hde;rw [<-hwd];have J3q:=zz (And.intro hde (And.intro hds J4s));clear hwd J4s J2e hab hde hds;go_wp2_with fail
  obtain ⟨we,hwe⟩: ∃W,W=wd.setCell ⟨b1,0,none⟩ (.int .i64 0):=⟨_,rfl⟩;have J95:Kp (Mer.One b1) wd we:=by rw [hwe];exact (Kp.refl (Mer.One b1) wd).setCell (p:=⟨b1,0,none⟩) (.inl (show Mer.One b1 b1 from rfl)) _
  have Jc3:we.heap[b1]?=some (.cells #[.int .i64 0] 47 (0,0)):=by rw [hwe];exact Ql J3q.out.1 0 (.int .i64 0)
  have hnb:s≠b1/\b0≠s/\b0≠b1/\m≠s/\m≠b1:=by have:=HB.out;omega
  have hes:we.heap[s]?=some (.cells #[.pointer (some ⟨d,0,none⟩), .pointer (some ⟨l,0,none⟩), .string P, .int .i64 (o:Int), .int .i64 0, .int .i64 0, .bool false, .map (some m), .int .i64 0, .int .i64 0,
  .int .i64 0, .int .i64 0, .int .i64 0, .int .i64 0, .int .i64 0, .int .i64 0, .int .i64 0, .int .i64 0, .int .i64 0, .int .i64 0, .int .i64 0, .int .i64 0, .int .i64 0, .int .i64 0, .int .i64 0, .slice none 0 0] 133 (0,0)):=J95.get J3q.out.2.1 hnb.1
  have J93:Kp (λi=>i=s\/i=b1) wa we:=((Q2i.out.mono (T:=λi=>i=s\/i=b1) λ_ _ h=> .inl h).Qr J3q.out.2.2).Q0 (J95.mono λ_ _ h=> .inr h);have hse:Qo7 T s w8 we:=⟨(Dc.out.2.1.mono (T:=T) λ_ _ h=>(HT.out _).2 (.inr (.inr h))).Q0 (J93.mono λi _ h=>(HT.out _).2 (h.imp id λh=> .inl h)),Q4 hes 4⟩;rw [<-hwe];refine ⟨hse,?_⟩;refine Qa (λnq=>?_);obtain ⟨wf,hwf⟩: ∃W,W=we.drewN nq:=⟨_,rfl⟩;have J4t:Kp No we wf:=by rw [hwf];exact (Kp.refl No we).drewN nq
  have J2v:=J93.Qr J4t;have Q63:=Dc.out.1.size;have Qo8:=Q7 H8.out.1;have hsz:s<w9.heap.size/\b1<w9.heap.size:=by have:=HB.out;omega
  have hWf:C0 wf d l Q ds st0 F1 G1:=Dc.out.2.2.1.Kf J2v (λk hf hk=>by
   rcases Dc.out.2.2.2.1 k hf with h1|h1
   ·rcases hk with rfl|rfl
    ·exact Qid.out.2.1.1 h1
    ·exact Qid.out.2.1.2.1 h1
   ·have h1:w9.heap.size<=k:=h1;omega) (λk hg hk=>by
   have h1:w9.heap.size<=k:=Dc.out.2.2.2.2 k hg;omega)
  have HF:=zz (And.intro (J4t.get hes λx=>x) (And.intro (J4t.get Jc3 λx=>x) (And.intro (J2v.get (Dc.out.2.1.get H8.out.2.1 Qid.out.1.2.2) λh=>h.elim hnb.2.1 hnb.2.2.1) (And.intro (J2v.get (Dc.out.2.1.get H8.out.2.2.2.1 Qid.out.2.1.2.2) λh=>h.elim hnb.2.2.2.1 hnb.2.2.2.2) (And.intro hWf (And.intro (show Je F F1 w from λk hf=>(Dc.out.2.2.2.1 k hf).imp id λh1=>by
   have h1:w9.heap.size<=k:=h1;have h2:=H8.out.2.2.2.2.size;omega) (And.intro (show ∀k,G1 k->w.heap.size<=k/\k≠s/\k≠m/\k≠b0/\k≠b1 from λk hg=>by
   have h1:w9.heap.size<=k:=Dc.out.2.2.2.2 k hg;have h2:=H8.out.2.2.2.2.size;have h3:=HB.out;omega) (And.intro (show Kp F w wf from (((Kp.Qx H8.out.2.2.2.2).Q0 Dc.out.2.1).trans J2v λi hi hk=>by
   have h3:=HB.out;omega)) (show ∀k,F1 k->k≠s/\k≠m/\k≠b0/\k≠b1 from λk hf=>by
   rcases Dc.out.2.2.2.1 k hf with h1|h1
   ·exact ⟨λe=>Qid.out.2.1.1 (e▸h1),λe=>Qid.out.2.1.2.2 (e▸h1),λe=>Qid.out.1.2.2 (e▸h1),λe=>Qid.out.2.1.2.1 (e▸h1)⟩
   ·have h1:w9.heap.size<=k:=h1;have h3:=HB.out;omega)))))))))
  rw [<-hwf];clear hwf J4t J2v Q63 Qo8 hsz hWf J93 J95 hwe Jc3 hes hse hnb J3q Q2i J3p HAS Dc HT Qid Em Jas g2 z2 l2 fa f4 H8;have J4a:wf.cell? ⟨b1,0,none⟩=some (.int .i64 0):=Q4 HF.out.2.1 0;go_wp2_with fail
  refine (N7 0 _).mono ?_;rintro e wx ⟨rfl,rfl⟩;clear J4a;have Jf4:wf.cell? ⟨b0,0,none⟩=some (.pointer (some ⟨s,0,none⟩)):=Q4 HF.out.2.2.1 0;have Ji0:wf.cell? ⟨s,1,none⟩=some (.pointer (some ⟨l,0,none⟩)):=Q4 HF.out.1 1;have J8h:=Q7 HF.out.1;go_wp2_with fail
  have hnx:Calls Tryz.prog 100 #[.pointer (some ⟨l,0,none⟩)] wf λe w'=>e= .returned (.tuple #[.int .i64 1, .int .i64 1])/\Kp No wf w':=Qm6 wf l d Q st0 G1 HF.out.2.2.2.2.1.log (by decide) (by decide);refine hnx.mono ?_;rintro e wg ⟨rfl,kg⟩;have hgs:=kg.get HF.out.1 λx=>x;have Jf8:wg.cell? ⟨b0,0,none⟩=some (.pointer (some ⟨s,0,none⟩)):=Q4 (kg.get HF.out.2.2.1 λx=>x) 0;have Jfa:wg.cell? ⟨s,4,none⟩=some (.int .i64 0):=Q4 hgs 4;have hsg:=Q7 hgs;have Qxa:=zz kg;clear kg hgs hnx Jf4 Ji0 J8h;go_wp2_with fail
  refine (N7 3 _).mono ?_;rintro e wx ⟨rfl,rfl⟩;go_wp2_with fail
  go_loop [13] (λz=>z= .int .i64 1) (λ_=>0)
  case atStart=>rfl
  case round=>
   obtain rfl:=hrel;have fb: ∀W,Kp No wg W->W.cell? ⟨b0,0,none⟩=some (.pointer (some ⟨s,0,none⟩)):=λW hW=>Q4 (hW.get (Qxa.out.get HF.out.2.2.1 λx=>x) λx=>x) 0;have fs: ∀W,Kp No wg W->W.cell? ⟨s,4,none⟩=some (.int .i64 0):=λW hW=>Q4 (hW.get (Qxa.out.get HF.out.1 λx=>x) λx=>x) 4;clear Jf8 Jfa;go_upto_region 21 with fail
   refine Jk (Kp No wg) [0,0,0,0,0,0,0,0,0,0,0,2] [0,1,2,3,4,5,6,7,8,9,10] 11 (by kernel_rfl) (by kernel_rfl) (λ_ n h=>h.drewN n) zK ?_;repeat (first|refine zA ?_|refine zB ?_|refine zC ?_)
   refine Yu (λn1=>?_);refine Q8 rfl rfl (λn2=>?_);obtain ⟨wh,hwh⟩: ∃W,W=(wg.drewN n1).drewN n2:=⟨_,rfl⟩;have J97:Kp No wg wh:=by rw [hwh];exact ((Kp.refl No wg).drewN n1).drewN n2
   have J1d:=J97.get (Qxa.out.get HF.out.1 λx=>x) λx=>x;have c5:wh.cell? ⟨s,5,none⟩=some (.int .i64 0):=Q4 J1d 5;have z5:=Qh J1d 5;have lh:=Q7 J1d;have Qtw:=zz (Qxa.out.Q0 J97);have Ja9:=zz J1d;rw [<-hwh];clear hwh J97 J1d fb fs;go_wp2_with fail
   intro nr;rw [show (-min (1:Int) 0)=0 from by decide];obtain ⟨wi,hwi⟩: ∃W,W=(wh.setCell ⟨s,5,none⟩ (.int .i64 0)).drewN nr:=⟨_,rfl⟩;have Qtd:Kp (Mer.One s) wh wi:=by rw [hwi];exact ((Kp.refl (Mer.One s) wh).setCell (p:=⟨s,5,none⟩) (.inl (show Mer.One s s from rfl)) _).drewN nr
   have his:wi.heap[s]?=some (.cells #[.pointer (some ⟨d,0,none⟩), .pointer (some ⟨l,0,none⟩), .string P, .int .i64 (o:Int), .int .i64 0, .int .i64 0, .bool false, .map (some m), .int .i64 0, .int .i64 0,
  .int .i64 0, .int .i64 0, .int .i64 0, .int .i64 0, .int .i64 0, .int .i64 0, .int .i64 0, .int .i64 0, .int .i64 0, .int .i64 0, .int .i64 0, .int .i64 0, .int .i64 0, .int .i64 0, .int .i64 0, .slice none 0 0] 133 (0,0)):=by
    rw [hwi];exact Ql Ja9.out 5 (.int .i64 0)
   have hnb:b0≠s/\b1≠s/\m≠s/\m≠b0/\m≠b1/\s≠b0/\s≠b1/\b0≠b1:=by have:=HB.out;omega
   have hi0:=Qtd.get (Qtw.out.get HF.out.2.2.1 λx=>x) hnb.1;have hi1:=Qtd.get (Qtw.out.get HF.out.2.1 λx=>x) hnb.2.1;have him:=Qtd.get (Qtw.out.get HF.out.2.2.2.1 λx=>x) hnb.2.2.1;have Jil:wi.cell? ⟨b0,0,none⟩=some (.pointer (some ⟨s,0,none⟩)):=Q4 hi0 0;have Jim:wi.cell? ⟨b1,0,none⟩=some (.int .i64 0):=Q4 hi1 0;have Jjl:=Qh hi0 0;have Jjm:=Qh hi1 0;have Jj9:=Q7 hi0;have Jja:=Q7 hi1;have n01: ¬b0=b1:=hnb.2.2.2.2.2.2.2;have n10: ¬b1=b0:=λe=>n01 e.symm;have HI:=zz (And.intro his (And.intro hi0 (And.intro hi1 (And.intro him (And.intro Qtd hnb)))));rw [<-hwi];clear hwi Qtd his hnb hi0 hi1 him c5 z5 lh Ja9;go_wp2_with fail
   obtain ⟨wj,J8m⟩: ∃W,W=(wi.setCell ⟨b0,0,none⟩ (.pointer (some ⟨s,0,none⟩))).setCell ⟨b1,0,none⟩ (.int .i64 0):=⟨_,rfl⟩;rw [<-J8m]
   have J4u:Kp (λi=>i=b0\/i=b1) wi wj:=by
    rw [J8m];exact ((Kp.refl (λi=>i=b0\/i=b1) wi).setCell (p:=⟨b0,0,none⟩) (.inl (.inl rfl)) _).setCell (p:=⟨b1,0,none⟩) (.inl (.inr rfl)) _
   obtain ⟨his,hi0,hi1,him,Qtd,hnb⟩:=HI.out;have J6v:=Ql hi0 0 (.pointer (some ⟨s,0,none⟩));have J0e:=Ah J6v (p:=⟨b1,0,none⟩) hnb.2.2.2.2.2.2.2 (.int .i64 0);have h1a:=Ah hi1 (p:=⟨b0,0,none⟩) (λe=>hnb.2.2.2.2.2.2.2 e.symm) (.pointer (some ⟨s,0,none⟩));have h1b:=Ql h1a 0 (.int .i64 0);rw [<-J8m] at J0e h1b;refine Qch (Q4 J0e 0) (Q4 h1b 0) _ rfl rfl _ ?_;have hjs:=J4u.get his λh=>h.elim hnb.2.2.2.2.2.1 hnb.2.2.2.2.2.2.1;have hjm:=J4u.get him λh=>h.elim hnb.2.2.2.1 hnb.2.2.2.2.1
   have hnew: ∀k,k=s\/k=b0\/k=b1\/k=m->w.heap.size<=k:=λk hk=>by
    have:=HB.out;omega
   have Qux: ∀k,F1 k->k≠s/\k≠b0/\k≠b1:=λk hk=>by
    have:=HF.out.2.2.2.2.2.2.2.2 k hk;exact ⟨this.1,this.2.2.1,this.2.2.2⟩
   have J75: ∀k,G1 k->k≠s/\k≠b0/\k≠b1:=λk hk=>by
    have:=HF.out.2.2.2.2.2.2.1 k hk;exact ⟨this.2.1,this.2.2.2.1,this.2.2.2.2⟩
   have hW1:=(HF.out.2.2.2.2.1.no Qtw.out).Kf Qtd (λk hk e=>(Qux k hk).1 e) (λk hk e=>(J75 k hk).1 e);have hW2:=hW1.Kf J4u (λk hk e=>e.elim (Qux k hk).2.1 (Qux k hk).2.2) (λk hk e=>e.elim (J75 k hk).2.1 (J75 k hk).2.2);refine ⟨s,l,m,F1,G1,rfl,⟨Qqs hjs hjm,HQ.out▸hW2,λi hi hf=>?_,λi hi hf=>?_⟩,HF.out.2.2.2.2.2.1,λk hk=>(HF.out.2.2.2.2.2.2.1 k hk).1,λk hk=>?_,?_⟩
   ·rcases Q5f hi with e|e
    ·exact (HF.out.2.2.2.2.2.2.2.2 i hf).1 e
    ·exact (HF.out.2.2.2.2.2.2.2.2 i hf).2.1 e
   ·rcases Q5f hi with e|e
    ·exact (HF.out.2.2.2.2.2.2.1 i hf).2.1 e
    ·exact (HF.out.2.2.2.2.2.2.1 i hf).2.2.1 e
   ·rcases Q5f hk with e|e
    ·exact hnew k (.inl e)
    ·exact hnew k (.inr (.inr (.inr e)))
   ·refine ((HF.out.2.2.2.2.2.2.2.1.Qr Qtw.out).trans Qtd λi hi e=>?_).trans J4u λi hi e=>?_
    ·have:=hnew i (.inl e);omega
    ·have:=hnew i (e.elim (λe=> .inr (.inl e)) λe=> .inr (.inr (.inl e)));omega
end Go.Proofs.YtgnkmjeoaoongaaGreatDoor
namespace Go.Mer
open Go.ChangeShapes Go.WideShapes Go.RowKit Go.Deep
section
variable {H:Type} {enc:TypeId×Value->H} {P:Program} {W:World}
def Opn (P:Program) (W:World):Nat->TypeId->List Value->Prop
 |0,_,_=>False
 |n+1,t,cs=>match P.underlying t with
  |some .bool=> ∃b,cs=[.bool b]
  |some (.int k)=> ∃x,cs=[.int k x]/\(Lit.int k x).wf=true
  |some .string=> ∃s:ByteArray,cs=[.string s]/\s.size<=140737488351232
  |some (.slice e)=> ∃(a:Option Addr) (len cap:Nat),cs=[.slice a len cap]/\len<=cap/\cap*P.bytesOf e<=140737488351232/\
    (0<P.cellsOf e-> ∀i,i<len-> ∃(g off:Nat) (cs':List Value),a=some ⟨g,off,none⟩/\g<W.heap.size/\cs'.length=P.cellsOf e/\
     (∀j,j<P.cellsOf e->W.cell? ⟨g,off+i*P.cellsOf e+j,none⟩=cs'[j]?)/\Opn P W n e cs')
  |some (.struct fs)=>cs.length=P.cellsOf t/\ ∀(i:Nat) (f:Field),fs[i]?=some f->Opn P W n f.type ((cs.drop f.offset).take (P.cellsOf f.type))
  |_=>True
theorem Ox {ts:List TypeId} {ds:List (DataW H)} {j:Nat} {t:TypeId} {d:DataW H} (ht:ts[j]?=some t) (hd:ds[j]?=some d): ∀n∈d.weights P t,n∈DataW.weightsEach P ts ds:=
 λn hn=>DataW.weights_mem_each ht hd n hn
theorem O8: ∀{n:Nat} {t:TypeId} {cs:List Value} {d:DataW H} {ps:List MemPlace},DataW.trod enc P W 0 (λ_=>true) true n t cs=some (d,ps)->(∀m∈d.weights P t,m<=reachBytes)->Opn P W n t cs
 |0,t,cs,d,ps,h,_=>by simp [DataW.trod] at h
 |n+1,t,cs,d,ps,h,hw=>by
  unfold Opn;cases hu:P.underlying t with
  |none=>trivial
  |some u=>
   cases u with
   |bool=>
    obtain ⟨b,hb,_⟩:=DataW.trod_bool hu h;exact ⟨b,hb⟩
   |int k=>
    obtain ⟨x,hx,_,hwf⟩:=DataW.trod_int hu h;exact ⟨x,hx,hwf⟩
   |string=>
    obtain ⟨s,hs,hd,_⟩:=DataW.trod_string hu h;injection hd with hd _;subst hd;refine ⟨s,hs,?_⟩;have:=hw s.data.toList.length (by simp [DataW.weights]);have e:s.data.toList.length=s.size:=Array.length_toList;rw [e,Q8t] at this;exact this
   |slice e=>
    rcases open_slice hu h with ⟨hcs,_⟩|⟨a,len,cap,m,n',D,Pl,hcs,_,hl,_,hm,hx,hi⟩
    ·exact ⟨none,0,0,hcs,Nat.le_refl _,by simp,λ_ i hi=>by omega⟩
    ·simp only [if_true] at hm;subst hm;injection hx with hd _;subst hd;refine ⟨some a,len,m,hcs,hl,?_,λhz i hil=>?_⟩
     ·have:=hw _ (by simp only [DataW.weights,hu];exact List.mem_cons_self ..);simp only [List.length_map,List.length_range,Q8t] at this;rwa [show len+(m-len)=m by omega] at this
     ·rcases DataW.trod_slice hu h with ⟨hcs',_⟩|⟨a',len',cap',elems,rest,n2,hn2,hcs',hx',_,_,_,hlen,hel,_,_⟩
      ·rw [hcs'] at hcs;simp at hcs
      ·rw [hcs'] at hcs;injection hcs with hcs;injection hcs with e1 e2 e3;injection e1 with e1;subst e1;subst e2;subst e3;obtain rfl:n=n2:=by omega
       have h1:=hel i hil;rw [getElem?_eq_getElem (by omega)] at h1;obtain ⟨cs',h2,h3⟩:=Option.bind_eq_some_iff.1 h1;obtain ⟨_,hl',hat⟩:=World.cells?_some h2
       have hgood:Opn P W n e cs':=O8 (d:=(elems[i]'(by omega)).1) (ps:=(elems[i]'(by omega)).2) h3 (λm' hm'=>by
        refine hw m' ?_;injection hx' with hx' _;rw [hx'];simp only [DataW.weights,hu];refine List.mem_cons_of_mem _ (List.mem_append_left _ ?_);exact Ow (d:=(elems[i]'(by omega)).1) (mem_map.2 ⟨_,List.getElem_mem (by omega),rfl⟩) _ hm')
       have hc0:=hat 0 hz;rw [getElem?_eq_getElem (by omega),Go.Deep.add_add] at hc0;obtain ⟨g,off,spot⟩:=a'
       have hs:spot=none:=by
        have k1:=hel 0 (by omega);rw [getElem?_eq_getElem (by omega)] at k1;obtain ⟨cs0,k2,_⟩:=Option.bind_eq_some_iff.1 k1;obtain ⟨_,k3,k4⟩:=World.cells?_some k2;have k5:=k4 0 hz;rw [getElem?_eq_getElem (by omega),Go.Deep.add_add] at k5;simpa [Addr.add] using World.cell?_spot k5
       subst hs;have hg:=World.block_lt_of_cell? W _ hc0;refine ⟨g,off,cs',rfl,by (have:=hg;rw [Z8] at this;exact this),hl',λj hj=>?_,hgood⟩;have:=hat j hj;rw [Go.Deep.add_add,Z8] at this;rw [Nat.add_assoc];exact this
   |struct fs=>
    obtain ⟨xs,n',hn',hx,hl,hlx,hf⟩:=DataW.trod_struct hu h;obtain rfl:n=n':=by omega
    refine ⟨hl,λi f hi=>?_⟩;have h1:=hf i f hi;have hil:i<fs.size:=(Array.getElem?_eq_some_iff.1 hi).1;rw [getElem?_eq_getElem (by omega)] at h1;refine O8 (d:=(xs[i]'(by omega)).1) (ps:=(xs[i]'(by omega)).2) h1 (λm hm=>hw m ?_);injection hx with hx _;rw [hx];simp only [DataW.weights,hu];exact Ox (j:=i) (t:=f.type) (by simp [hi]) (by simp [getElem?_eq_getElem (show i<xs.length by omega)]) _ hm
   |_=>trivial
theorem Q3p {R:Type} {n c:Nat} {t e:TypeId} {a:Option Addr} {len cap:Nat} (h:Opn P W (n+1) t [.slice a len cap]) (ht:P.underlying t=some (.slice e)) (he:P.cellsOf e=c) (hc:0<c) (f:R->List Value) (Q:R->Prop) (hf: ∀r,(f r).length=c)
  (hone: ∀cs,Opn P W n e cs-> ∃r,cs=f r/\Q r): ∃L:List R,L.length=len/\Rd W W.heap.size a (L.flatMap f)/\(∀r∈L,Q r)/\len<=cap/\cap*P.bytesOf e<=140737488351232:=by
 unfold Opn at h;rw [ht] at h;obtain ⟨a',len',cap',hcs,hl,hr,hrow⟩:=h;injection hcs with hcs;injection hcs with e1 e2 e3;subst e1;subst e2;subst e3;rw [he] at hrow
 have hget: ∀i,i<len-> ∃r,Q r/\ ∃g off,a=some ⟨g,off,none⟩/\g<W.heap.size/\ ∀j,j<c->W.cell? ⟨g,off+i*c+j,none⟩=(f r)[j]?:=λi hi=>by
  obtain ⟨g,off,cs',h1,h2,h3,h4,h5⟩:=hrow hc i hi;obtain ⟨r,rfl,hq⟩:=hone cs' h5;exact ⟨r,hq,g,off,h1,h2,h4⟩
 by_cases h0:len=0
 ·subst h0;exact ⟨[],rfl,Rd.nil _ _ _,by simp,hl,hr⟩
 ·obtain ⟨r0,_,_⟩:=hget 0 (by omega)
  obtain ⟨F,hF⟩: ∃F:Nat->R,∀i,i<len->Q (F i)/\ ∃g off,a=some ⟨g,off,none⟩/\g<W.heap.size/\ ∀j,j<c->W.cell? ⟨g,off+i*c+j,none⟩=(f (F i))[j]?:=by
   refine ⟨λi=>if h:i<len then Classical.choose (hget i h) else r0,λi hi=>?_⟩;simp only [dif_pos hi];exact Classical.choose_spec (hget i hi)
  refine ⟨(List.range len).map F,by simp,λhx=>?_,λr hr=>?_,hl,hr⟩
  ·obtain ⟨_,g,off,h1,h2,_⟩:=hF 0 (by omega);refine ⟨g,off,h1,h2,Nat.le_refl _,λj u hu=>?_⟩
   have hlen: ∀m,(((List.range m).map F).flatMap f).length=m*c:=λm=>by
    induction m with
    |zero=>simp
    |succ m ih=>rw [List.range_succ,List.map_append,List.flatMap_append,List.length_append,ih,Nat.add_mul];simp [hf]
   have hj:j<len*c:=by rw [<-hlen len];exact (List.getElem?_eq_some_iff.1 hu).1
   have hi:j/c<len:=(Nat.div_lt_iff_lt_mul hc).2 hj;obtain ⟨_,g',off',h3,_,h4⟩:=hF (j/c) hi;rw [h1] at h3;injection h3 with h3;injection h3 with e1 e2 _;subst e1;subst e2;have h5:=h4 (j % c) (Nat.mod_lt _ hc);rw [Nat.add_assoc,Nat.mul_comm,Nat.div_add_mod] at h5;rw [h5]
   have hsplit:((List.range len).map F).flatMap f=((List.range (j/c)).map F).flatMap f++(f (F (j/c))++(((List.range len).map F).drop (j/c+1)).flatMap f):=by
    have e1:(List.range len).map F=(List.range (j/c)).map F++(F (j/c)::((List.range len).map F).drop (j/c+1)):=by
     have hl':j/c<((List.range len).map F).length:=by simpa using hi
     have hd:=List.drop_eq_getElem_cons hl';have ht:=(List.take_append_drop (j/c) ((List.range len).map F)).symm;rw [hd,List.getElem_map,List.getElem_range,<-List.map_take,List.take_range,Nat.min_eq_left (by omega)] at ht;exact ht
    conv=>lhs;rw [e1]
    rw [List.flatMap_append,List.flatMap_cons]
   rw [hsplit,List.getElem?_append_right (by rw [hlen];rw [Nat.mul_comm];exact Nat.mul_div_le j c),hlen] at hu;have e2:j-j/c*c=j % c:=by rw [Nat.mul_comm];have:=Nat.div_add_mod j c;omega
   rw [e2,List.getElem?_append_left (by rw [hf];exact Nat.mod_lt _ hc)] at hu;exact hu
  ·obtain ⟨i,hi,rfl⟩:=mem_map.1 hr;exact (hF i (List.mem_range.1 hi)).1
theorem Q71 {n:Nat} {t:TypeId} {k:IntKind} {cs:List Value} (h:Opn P W n t cs) (ht:P.underlying t=some (.int k)): ∃x,cs=[.int k x]/\(Lit.int k x).wf=true:=by
 cases n with
 |zero=>exact h.elim
 |succ n=>unfold Opn at h;rw [ht] at h;exact h
theorem Q70 {n:Nat} {t:TypeId} {cs:List Value} (h:Opn P W n t cs) (ht:P.underlying t=some (.int .i64)): ∃x,cs=[.int .i64 x]/\ -9223372036854775808<=x/\x<=9223372036854775807:=by
 obtain ⟨x,h1,h2⟩:=Q71 h ht;have a1:IntKind.i64.min= -9223372036854775808:=rfl;have a2:IntKind.i64.max=9223372036854775807:=rfl;simp only [Lit.wf,Bool.and_eq_true,decide_eq_true_eq,a1,a2] at h2;exact ⟨x,h1,h2⟩
theorem Qfs {n:Nat} {t:TypeId} {cs:List Value} (h:Opn P W n t cs) (ht:P.underlying t=some .bool): ∃x,cs=[.bool x]:=by
 cases n with
 |zero=>exact h.elim
 |succ n=>unfold Opn at h;rw [ht] at h;exact h
theorem Du {n:Nat} {t:TypeId} {cs:List Value} (h:Opn P W n t cs) (ht:P.underlying t=some .string): ∃s:ByteArray,cs=[.string s]/\s.size<=140737488351232:=by
 cases n with
 |zero=>exact h.elim
 |succ n=>unfold Opn at h;rw [ht] at h;exact h
theorem Q0a {n:Nat} {t e:TypeId} {cs:List Value} (h:Opn P W n t cs) (ht:P.underlying t=some (.slice e)): ∃n' a len cap,n=n'+1/\cs=[.slice a len cap]:=by
 cases n with
 |zero=>exact h.elim
 |succ n=>
  unfold Opn at h;rw [ht] at h;obtain ⟨a,len,cap,rfl,_⟩:=h;exact ⟨n,a,len,cap,rfl,rfl⟩
theorem B8 {n:Nat} {t:TypeId} {fs:Array Field} {cs:List Value} (h:Opn P W n t cs) (ht:P.underlying t=some (.struct fs)):
  ∃n',n=n'+1/\cs.length=P.cellsOf t/\ ∀(i:Nat) (f:Field),fs[i]?=some f->Opn P W n' f.type ((cs.drop f.offset).take (P.cellsOf f.type)):=by
 cases n with
 |zero=>exact h.elim
 |succ n=>
  unfold Opn at h;rw [ht] at h;exact ⟨n,rfl,h⟩
theorem Qdn: ∀L:List UInt8,L.flatMap (λb:UInt8=>[u8 b])=u8s L
 |[]=>rfl
 |b::L=>by rw [List.flatMap_cons,Qdn L];rfl
theorem Qb4 {n:Nat} {t e:TypeId} {cs:List Value} (h:Opn P W n t cs) (ht:P.underlying t=some (.slice e)) (he:P.underlying e=some (.int .u8)) (ce:P.cellsOf e=1) (be:P.bytesOf e=1):
  ∃(a:Option Addr) (cap:Nat) (l:List UInt8),cs=[.slice a l.length cap]/\Rd W W.heap.size a (u8s l)/\l.length<=cap/\cap<=140737488351232:=by
 obtain ⟨n',a,len,cap,rfl,rfl⟩:=Q0a h ht
 obtain ⟨L,rfl,hr,_,h1,h2⟩:=Q3p h ht ce (by decide) (λb:UInt8=>[u8 b]) (λ_=>True) (λ_=>rfl) (λcs hg=>by
  obtain ⟨x,rfl,hx⟩:=Q71 hg he;exact ⟨J9r x,by rw [Qww hx],trivial⟩)
 refine ⟨a,cap,L,rfl,?_,h1,by rw [be] at h2;omega⟩;rwa [Qdn] at hr
theorem Gk {n k:Nat} {fs:Array Field} {cs:List Value} (hf: ∀(i:Nat) (f:Field),fs[i]?=some f->Opn P W n f.type ((cs.drop f.offset).take (P.cellsOf f.type))) (i:Nat) (f:Field) (hi:fs[i]?=some f) (hc:P.cellsOf f.type=k):
  Opn P W n f.type ((cs.drop f.offset).take k):=hc▸hf i f hi
theorem U7 {ts:List TypeId} {ds:List (DataW H)} (hsz:(DataW.weightsEach P ts ds).all (· <=reachBytes)=true) {j:Nat} {t:TypeId} {d:DataW H} (hj:ts[j]?=some t) (hd:ds[j]?=some d) {v:Value} {ps:List MemPlace}
  (h:DataW.Trod enc P W 0 (λ_=>true) true t v d ps): ∃n,Opn P W n t v.cells.toList:=by
 obtain ⟨n,h⟩:=h;exact ⟨n,O8 h λm hm=>of_decide_eq_true (List.all_eq_true.1 hsz m (Ox hj hd m hm))⟩
end
end Go.Mer
