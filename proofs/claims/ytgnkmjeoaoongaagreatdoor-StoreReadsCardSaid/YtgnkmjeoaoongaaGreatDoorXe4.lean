/-
  SOpn, SXOpn, SAt0, SStart, SPair, SKnown.
-/
import Derived.Test.YtgnkmjeoaoongaaGreatDoorXe3
import Derived.Test.YtgnkmjeoaoongaaGreatDoorXe2
set_option maxRecDepth 100000
set_option maxHeartbeats 4000000
namespace Go.Proofs.YtgnkmjeoaoongaaGreatDoor
open Go.RowKit Go.Mer
theorem Q7v (w:World) (o1 o2 o3 o4:Obj):((((w.alloc o1).alloc o2).alloc o3).alloc o4).heap.size=w.heap.size+1+1+1+1/\((((w.alloc o1).alloc o2).alloc o3).alloc o4).heap[w.heap.size]?=some o1/\((((w.alloc o1).alloc o2).alloc o3).alloc o4).heap[w.heap.size+1]?=some o2/\
  ((((w.alloc o1).alloc o2).alloc o3).alloc o4).heap[w.heap.size+1+1]?=some o3/\((((w.alloc o1).alloc o2).alloc o3).alloc o4).heap[w.heap.size+1+1+1]?=some o4:=by
 have s1:(w.alloc o1).heap.size=w.heap.size+1:=by simp
 have s2:((w.alloc o1).alloc o2).heap.size=w.heap.size+1+1:=by simp
 have s3:(((w.alloc o1).alloc o2).alloc o3).heap.size=w.heap.size+1+1+1:=by simp
 have h1:=heap_alloc_new w o1;have h2:=heap_alloc_new (w.alloc o1) o2;have h3:=heap_alloc_new ((w.alloc o1).alloc o2) o3;have h4:=heap_alloc_new (((w.alloc o1).alloc o2).alloc o3) o4;rw [s1] at h2;rw [s2] at h3;rw [s3] at h4;exact ⟨by simp,J6 (J6 (J6 h1 _) _) _,J6 (J6 h2 _) _,J6 h3 _,h4⟩
theorem Q31 {s m k:Nat} (h:X6 s m [] none 0 [] k):k=s\/k=m:=by
 rcases h with h|h|⟨p,hp,_⟩|h|⟨x,hx,_⟩
 ·exact .inl h
 ·exact .inr h
 ·exact absurd hp List.not_mem_nil
 ·simp [Value.ownBlock] at h
 ·exact absurd hx List.not_mem_nil
theorem Qkv {w:World} {m:Nat} (hm:w.heap[m]?=some (.map #[] 0)):Vi Value.string w m []:=by
 have h:=Vi.made Value.string w;obtain ⟨es,ck,h1,h2,h3⟩:=h;have h4:=heap_alloc_new w (.map #[] 0);rw [h1] at h4;injection h4 with h4;injection h4 with h5 h6;subst h5;subst h6;exact ⟨#[],0,hm,h2,h3⟩
theorem Qm1 {w:World} {s d l o m:Nat} {P:ByteArray} (hs:w.heap[s]?=some (.cells #[.pointer (some ⟨d,0,none⟩), .pointer (some ⟨l,0,none⟩), .string P, .int .i64 (o:Int), .int .i64 0, .int .i64 0, .bool false, .map (some m), .int .i64 0, .int .i64 0,
  .int .i64 0, .int .i64 0, .int .i64 0, .int .i64 0, .int .i64 0, .int .i64 0, .int .i64 0, .int .i64 0, .int .i64 0, .int .i64 0, .int .i64 0, .int .i64 0, .int .i64 0, .int .i64 0, .int .i64 0, .slice none 0 0] 133 (0,0))) (hm:w.heap[m]?=some (.map #[] 0)):Yt w s d l P o X0 m [] none 0 []:=
 ⟨hs,Qkv hm,⟨λ_ hp=>absurd hp List.not_mem_nil,List.nodup_nil,List.nodup_nil,List.nodup_nil⟩,⟨Own.nil _ _ _,λ_ hx=>absurd hx List.not_mem_nil⟩,List.Perm.refl _,rfl⟩
def Qjg (T:Nat->Prop) (s:Nat) (w W:World):Prop:=Kp T w W/\W.cell? ⟨s,4,none⟩=some (.int .i64 0)
theorem Q64 (w:World) (d:Nat) (P:ByteArray) (o:Nat) (ds:Qu) (F:Nat->Prop) (hD:Zd w d ds F) (hds:ds.files=[]) (Y4:Pow w) (C3: ¬F 0) (hP1:1<=P.size) (hP2:P.size<=20) (hroom:ds.room<=1048576) (ho:o<5):
  Calls Tryz.prog 44 #[.pointer (some ⟨d,0,none⟩), .string P, .int .i64 (o:Int)] w λe w'=> ∃s l m F' G',e= .returned (.tuple #[.pointer (some ⟨s,0,none⟩), .int .i64 0])/\Q0u w' s d l P (Zp P 0) o X0 m [] none 0 [] ds st0 F' G'/\
   Qv F F' w/\(∀k,G' k->w.heap.size<=k)/\(∀k,X6 s m [] none 0 [] k->w.heap.size<=k)/\Kp F w w':=by
 have hmf: ∀(fn:Fn) (first cap:Array Value) (w:World),(Instr.makeFunc fn first cap).run Tryz.prog w= .ok (.func fn first cap) w:=λ_ _ _ _=>rfl;have hmm:= @run_makeMap Tryz.prog;have e1:decide (1<=(P.size:Int))=true:=decide_eq_true (by omega);have e2:decide ((P.size:Int)<=20)=true:=decide_eq_true (by omega);have e3:decide (0<=(o:Int))=true:=decide_eq_true (by omega);have e4:decide ((o:Int)<5)=true:=decide_eq_true (by omega);have e1':decide (1<=P.size)=true:=decide_eq_true hP1;have e2':decide (P.size<=20)=true:=decide_eq_true hP2;have e4':decide (o<5)=true:=decide_eq_true ho;have HD:=zz hD;have Qay:=zz hds;have Q0c:=zz (And.intro Y4 C3);have Qpb:=zz (And.intro hroom (And.intro hP1 (And.intro hP2 ho)));clear hD hds Y4 C3 hroom;go_enter_defers Tryz.func44,Tryz.ntmps44
 go_wp2_with fail
 refine (Ou 1 _).mono ?_;rintro e wx ⟨rfl,rfl⟩;go_upto_region 4 with fail
 obtain ⟨b0,hb0⟩: ∃b0,b0=w.heap.size:=⟨_,rfl⟩;rw [<-hb0]
 obtain ⟨W4,Ng⟩: ∃W,W=((((w.alloc (.cells #[.pointer (some ⟨b0+1+1+1,0,none⟩)] 35)).alloc (.cells #[.int .i64 0] 47)).alloc (.map #[] 0)).alloc (.cells #[.pointer (some ⟨d,0,none⟩), .pointer none, .string P, .int .i64 (o:Int), .int .i64 0, .int .i64 0, .bool false, .map (some (b0+1+1)), .int .i64 0, .int .i64 0,
  .int .i64 0, .int .i64 0, .int .i64 0, .int .i64 0, .int .i64 0, .int .i64 0, .int .i64 0, .int .i64 0, .int .i64 0, .int .i64 0, .int .i64 0, .int .i64 0, .int .i64 0, .int .i64 0, .int .i64 0, .slice none 0 0] 133)):=⟨_,rfl⟩
 have h4:=Q7v w (.cells #[.pointer (some ⟨b0+1+1+1,0,none⟩)] 35) (.cells #[.int .i64 0] 47) (.map #[] 0) (.cells #[.pointer (some ⟨d,0,none⟩), .pointer none, .string P, .int .i64 (o:Int), .int .i64 0, .int .i64 0, .bool false, .map (some (b0+1+1)), .int .i64 0, .int .i64 0,
  .int .i64 0, .int .i64 0, .int .i64 0, .int .i64 0, .int .i64 0, .int .i64 0, .int .i64 0, .int .i64 0, .int .i64 0, .int .i64 0, .int .i64 0, .int .i64 0, .int .i64 0, .int .i64 0, .int .i64 0, .slice none 0 0] 133)
 rw [<-Ng,<-hb0] at h4;rw [<-Ng];have k4:Kp No w W4:=by rw [Ng];exact ((((Kp.refl No w).alloc _).alloc _).alloc _).alloc _
 have hs4:W4.heap.size=b0+1+1+1+1:=h4.1;have Qsn:W4.heap[b0]?=some (.cells #[.pointer (some ⟨b0+1+1+1,0,none⟩)] 35 (0,0)):=h4.2.1;have J0h:W4.heap[b0+1]?=some (.cells #[.int .i64 0] 47 (0,0)):=h4.2.2.1;have Qy4:W4.heap[b0+1+1]?=some (.map #[] 0):=h4.2.2.2.1
 have Qso:W4.heap[b0+1+1+1]?=some (.cells #[.pointer (some ⟨d,0,none⟩), .pointer none, .string P, .int .i64 (o:Int), .int .i64 0, .int .i64 0, .bool false, .map (some (b0+1+1)), .int .i64 0, .int .i64 0,
  .int .i64 0, .int .i64 0, .int .i64 0, .int .i64 0, .int .i64 0, .int .i64 0, .int .i64 0, .int .i64 0, .int .i64 0, .int .i64 0, .int .i64 0, .int .i64 0, .int .i64 0, .int .i64 0, .int .i64 0, .slice none 0 0] 133 (0,0)):=h4.2.2.2.2
 clear h4;obtain ⟨b1,hb1⟩: ∃b1,b1=b0+1:=⟨_,rfl⟩;rw [<-hb1] at Qsn J0h Qy4 Qso hs4⊢;obtain ⟨m,hm⟩: ∃m,m=b1+1:=⟨_,rfl⟩;rw [<-hm] at Qsn Qy4 Qso hs4⊢;obtain ⟨s,hs⟩: ∃s,s=m+1:=⟨_,rfl⟩;rw [<-hs] at Qsn Qso hs4⊢;have HB:=zz (And.intro hb0 (And.intro hb1 (And.intro hm hs)));have H4:=zz (And.intro k4 (And.intro hs4 (And.intro Qsn (And.intro J0h (And.intro Qy4 Qso)))));have hsb:b0≠s:=by omega
 have fa: ∀W,Kp (Mer.One s) W4 W->W.cell? ⟨b0,0,none⟩=some (.pointer (some ⟨s,0,none⟩)):=λW hW=>Q0 (hW.get Qsn hsb) 0;have hsl:=Q3 Qso;obtain ⟨A,hA⟩: ∃A:ByteArray,A=P++⟨#[97,103,101]⟩:=⟨_,rfl⟩;have Q7c:=zz (show ∀W,Kp No W4 W->Calls Tryz.prog 94 #[.pointer (some ⟨d,0,none⟩), .string A] W λe w'=>e= .returned (.int .i64 0)/\Kp No W w' from λW hW=>Q36 (HD.out.Q5 (k4.trans_same hW)) A (by rw [Qay.out];rfl));have J39:=zz hA.symm;clear hA;have Jam:=Qpb.out.2.2.1;clear hb0 hb1 hm hs k4 hs4 Qsn J0h Qy4 Qso Ng hsb;refine zD (Mer.One s) [0,0,0,0,2,0,0,2] [0,1,2,3,4,5,6,7] ?_;repeat (first|refine zA ?_|refine zB ?_|refine zC ?_)
 refine Q8 rfl rfl rfl (v:= .string (P++⟨#[97,103,101]⟩)) ?_ rfl ?_
 ·intro _ _;go_simp
  omega
 rw [J39.out];refine Q4 rfl rfl (λq1=>?_);go_wp2_with fail
 refine (Q7c.out _ ((Kp.refl No W4).drewN q1)).mono ?_;rintro e w5 ⟨rfl,k5⟩;have Qlo:Kp No W4 w5:=k5.of_drewN;clear k5;go_wp2_with fail
 (try refine ⟨Kp.of_no Qlo,?_⟩)
 repeat (first|refine zA ?_|refine zB ?_|refine zC ?_)
 refine Q4 rfl rfl (λq2=>?_);obtain ⟨w6,hw6⟩: ∃W,W=w5.drewN q2:=⟨_,rfl⟩;have J2e:Kp No W4 w6:=by rw [hw6];exact Qlo.drewN q2
 have Qut:=J2e.get H4.out.2.2.2.2.2 λx=>x;have f4:=Qc Qut 4;have c4:w6.cell? ⟨s,4,none⟩=some (.int .i64 0):=Q0 Qut 4;have hs6:=Q3 Qut;rw [<-hw6];have Gb:=zz J2e;have J38:=zz Qut;clear hw6 Qlo J2e Qut;go_wp2_with fail
 have Q0k:Kp (Mer.One s) W4 (w6.setCell ⟨s,4,none⟩ (.int .i64 0)):=(Kp.of_no Gb.out).setCell (p:=⟨s,4,none⟩) (.inl (show Mer.One s s from rfl)) _;refine ⟨Q0k,?_⟩;refine Q6 (λnq=>?_);obtain ⟨w7,hw7⟩: ∃W,W=(w6.setCell ⟨s,4,none⟩ (.int .i64 0)).drewN nq:=⟨_,rfl⟩;have k7:Kp (Mer.One s) W4 w7:=by rw [hw7];exact Q0k.drewN nq
 have J4r:w7.heap[s]?=some (.cells #[.pointer (some ⟨d,0,none⟩), .pointer none, .string P, .int .i64 (o:Int), .int .i64 0, .int .i64 0, .bool false, .map (some m), .int .i64 0, .int .i64 0,
  .int .i64 0, .int .i64 0, .int .i64 0, .int .i64 0, .int .i64 0, .int .i64 0, .int .i64 0, .int .i64 0, .int .i64 0, .int .i64 0, .int .i64 0, .int .i64 0, .int .i64 0, .int .i64 0, .int .i64 0, .slice none 0 0] 133 (0,0)):=by
  rw [hw7];exact Qh J38.out 4 (.int .i64 0)
 rw [<-hw7];have hbs:b0≠s/\b1≠s/\m≠s:=by have:=HB.out;omega
 have H7:=zz (And.intro J4r (And.intro (k7.get H4.out.2.2.1 hbs.1) (And.intro (k7.get H4.out.2.2.2.1 hbs.2.1) (And.intro (k7.get H4.out.2.2.2.2.1 hbs.2.2) (show Kp No w w7 from (H4.out.1.trans k7 λi hi e=>by
  have h1:=HB.out;have e:i=s:=e;omega))))))
 clear hw7 k7 Q0k J4r hbs f4 c4 hs6 Gb J38 fa hsl Q7c H4 J39;go_wp2_with fail
 refine (Bw (HD.out.Q5 H7.out.2.2.2.2) Qay.out).mono ?_;rintro e w8 ⟨na,nc,rfl,k8⟩;have H8:=zz (And.intro (k8.get H7.out.1 λx=>x) (And.intro (k8.get H7.out.2.1 λx=>x) (And.intro (k8.get H7.out.2.2.1 λx=>x) (And.intro (k8.get H7.out.2.2.2.1 λx=>x) (H7.out.2.2.2.2.trans_same k8)))));clear k8 H7;go_wp2_with fail
 go_loop [54] (λz=>z= .int .i64 0) (λ_=>0)
 case atStart=>rfl
 case round=>
  obtain rfl:=hrel;go_upto_region 12 with fail
  have hb:=HB.out;have Kb:=HD.out.lt;have Qg6:b0≠s/\b0≠b1/\ ¬F b0:=⟨by omega,by omega,λhf=>by have:=Kb b0 hf;omega⟩;have Qe0: ¬F s/\ ¬F b1/\ ¬F m:=⟨λhf=>by have:=Kb s hf;omega,λhf=>by have:=Kb b1 hf;omega,λhf=>by have:=Kb m hf;omega⟩;obtain ⟨T,hT⟩: ∃T:Nat->Prop,∀i,T i↔(i=s\/i=b1\/F i):=⟨_,λ_=>Iff.rfl⟩;have J4k:w8.cell? ⟨s,4,none⟩=some (.int .i64 0):=Q0 H8.out.1 4;have fa: ∀W,Qjg T s w8 W->W.cell? ⟨b0,0,none⟩=some (.pointer (some ⟨s,0,none⟩)):=λW hW=>Q0 (hW.1.get H8.out.2.1 λh=>((hT _).1 h).elim Qg6.1 λh=>h.elim Qg6.2.1 Qg6.2.2) 0;have f4: ∀W,Qjg T s w8 W->W.cell? ⟨s,4,none⟩=some (.int .i64 0):=λW hW=>hW.2;have hdr: ∀(W:World) (n:Nat),Qjg T s w8 W->Qjg T s w8 (W.drewN n):=λW n h=>⟨h.1.drewN n,h.2⟩;have hst:Qjg T s w8 w8:=⟨Kp.refl _ _,J4k⟩;obtain ⟨Q,hQ⟩: ∃Q,Q=Zp P 0:=⟨_,rfl⟩
  have hln: ∀W,Kp No w8 W->Calls Tryz.prog 97 #[.string P, .int .i64 0] W λe w'=>e= .returned (.string Q)/\Kp No W w':=λW hW=>by
   rw [hQ];exact Q5e P (by have:=Qpb.out.2.2.1;omega) 0 (by decide) W (Q0c.out.1.keep (H8.out.2.2.2.2.trans_same hW))
  have hwo: ∀W,Kp No w8 W->Calls Tryz.prog 99 #[.pointer (some ⟨d,0,none⟩), .string Q] W λe w'=> ∃l F' G',e= .returned (.tuple #[.pointer (some ⟨l,0,none⟩), .int .i64 0])/\Lt w' d l Q ds st0 F' G'/\Qv F F' W/\(∀k,G' k->W.heap.size<=k)/\Kp F W w':=λW hW=>by
   rw [hQ];exact Q93 (HD.out.Q5 (H8.out.2.2.2.2.trans_same hW)) Qay.out Qpb.out.2.2.1
  have E4:=zz hln;have J45:=zz hwo;have HT:=zz hT;have HQ:=zz hQ;have Qe8:=zz (And.intro Qg6 (And.intro Qe0 Kb));clear hln hwo hT hQ Qg6 Qe0 Kb hb J4k;refine Yq (Qjg T s w8) [0,0,0,0,0,0,0,2,2,0,0,0,0,0,2,2] [0,1,2,3,4,5,6,7,8,9,10,11,12,13,14,15] (by kernel_rfl) (by kernel_rfl) (λW n h=>hdr W n h) hst ?_;clear hst hdr;repeat (first|refine zA ?_|refine zB ?_|refine zC ?_)
  refine Q4 rfl rfl (λq1=>?_);go_wp2_with fail
  refine (E4.out _ ((Kp.refl No w8).drewN q1)).mono ?_;rintro e w9 ⟨rfl,k9⟩;have Qe2:Kp No w8 w9:=k9.of_drewN;clear k9;go_wp2_with fail
  have hs9:Qjg T s w8 w9:=⟨Kp.of_no Qe2,Q0 (Qe2.get H8.out.1 λx=>x) 4⟩
  (try refine ⟨hs9,?_⟩)
  clear hs9;repeat (first|refine zA ?_|refine zB ?_|refine zC ?_)
  refine Q4 rfl rfl (λq2=>?_);go_wp2_with fail
  refine (J45.out _ (Qe2.drewN q2)).mono ?_;rintro e wa ⟨l,F1,G1,rfl,Qv5,hF1,hG1,ka⟩;have Qyg:Kp F w8 wa:=(Kp.of_no (Qe2.drewN q2)).trans_same ka;have has:wa.heap[s]?=_:=Qyg.get H8.out.1 Qe8.out.2.1.1;have hsa:Qjg T s w8 wa:=⟨Qyg.mono λ_ _ h=>(HT.out _).2 (.inr (.inr h)),Q0 has 4⟩;have M6:=zz (And.intro Qe2 (And.intro Qyg (And.intro Qv5 (And.intro hF1 hG1))));have HAS:=zz has;clear Qe2 ka Qyg Qv5 hF1 hG1 has;go_wp2_with fail
  (try refine ⟨hsa,?_⟩)
  clear hsa;repeat (first|refine zA ?_|refine zB ?_|refine zC ?_)
  refine Q4 rfl rfl (λq3=>?_);obtain ⟨wb,hwb⟩: ∃W,W=wa.drewN q3:=⟨_,rfl⟩;have Qop:Kp No wa wb:=by rw [hwb];exact (Kp.refl No wa).drewN q3
  have hbs:=Qop.get HAS.out λx=>x;have g1:wb.cell? ⟨s,1,none⟩=some (.pointer none):=Q0 hbs 1;have z1:=Qc hbs 1;have l1:=Q3 hbs;have J3a:=zz hbs;have HKB:=zz Qop;rw [<-hwb];clear hwb Qop hbs;go_wp2_with fail
  obtain ⟨wc,hwc⟩: ∃W,W=wb.setCell ⟨s,1,none⟩ (.pointer (some ⟨l,0,none⟩)):=⟨_,rfl⟩;have J5y:Kp (Mer.One s) wb wc:=by rw [hwc];exact (Kp.refl (Mer.One s) wb).setCell (p:=⟨s,1,none⟩) (.inl (show Mer.One s s from rfl)) _
  have hcs:wc.heap[s]?=some (.cells #[.pointer (some ⟨d,0,none⟩), .pointer (some ⟨l,0,none⟩), .string P, .int .i64 (o:Int), .int .i64 0, .int .i64 0, .bool false, .map (some m), .int .i64 0, .int .i64 0,
  .int .i64 0, .int .i64 0, .int .i64 0, .int .i64 0, .int .i64 0, .int .i64 0, .int .i64 0, .int .i64 0, .int .i64 0, .int .i64 0, .int .i64 0, .int .i64 0, .int .i64 0, .int .i64 0, .int .i64 0, .slice none 0 0] 133 (0,0)):=by rw [hwc];exact Qh J3a.out 1 (.pointer (some ⟨l,0,none⟩))
  have J2k:Kp (Mer.One s) wa wc:=(Kp.of_no HKB.out).trans_same J5y;have hsc:Qjg T s w8 wc:=⟨(M6.out.2.1.mono (T:=T) λ_ _ h=>(HT.out _).2 (.inr (.inr h))).trans_same (J2k.mono λi _ h=>(HT.out _).2 (.inl h)),Q0 hcs 4⟩;rw [<-hwc];have Q1y:=zz J2k;have Qxn:=zz hcs;clear hwc J5y J2k hcs g1 z1 l1 J3a HKB
  (try refine ⟨hsc,?_⟩)
  clear hsc;repeat (first|refine zA ?_|refine zB ?_|refine zC ?_)
  refine Q4 rfl rfl (λq4=>?_);obtain ⟨wd,hwd⟩: ∃W,W=wc.drewN q4:=⟨_,rfl⟩;have Qyh:Kp No wc wd:=by rw [hwd];exact (Kp.refl No wc).drewN q4
  have Qws:b1≠s:=by have:=HB.out;omega
  have hab:wa.heap[b1]?=_:=M6.out.2.1.get H8.out.2.2.1 Qe8.out.2.1.2.1
  have hde:wd.heap[b1]?=some (.cells #[.int .i64 0] 47 (0,0)):=by
   exact Qyh.get (Q1y.out.get hab λe=>Qws e) λx=>x
  have hds:=Qyh.get Qxn.out λx=>x;have g2:wd.cell? ⟨b1,0,none⟩=some (.int .i64 0):=Q0 hde 0;have z2:=Qc hde 0;have l2:=Q3 hde;rw [<-hwd];have Qxo:=zz (And.intro hde (And.intro hds Qyh));clear hwd Qyh Qws hab hde hds;go_wp2_with fail
  obtain ⟨we,hwe⟩: ∃W,W=wd.setCell ⟨b1,0,none⟩ (.int .i64 0):=⟨_,rfl⟩;have Qoq:Kp (Mer.One b1) wd we:=by rw [hwe];exact (Kp.refl (Mer.One b1) wd).setCell (p:=⟨b1,0,none⟩) (.inl (show Mer.One b1 b1 from rfl)) _
  have J5d:we.heap[b1]?=some (.cells #[.int .i64 0] 47 (0,0)):=by rw [hwe];exact Qh Qxo.out.1 0 (.int .i64 0)
  have hnb:s≠b1/\b0≠s/\b0≠b1/\m≠s/\m≠b1:=by have:=HB.out;omega
  have hes:we.heap[s]?=some (.cells #[.pointer (some ⟨d,0,none⟩), .pointer (some ⟨l,0,none⟩), .string P, .int .i64 (o:Int), .int .i64 0, .int .i64 0, .bool false, .map (some m), .int .i64 0, .int .i64 0,
  .int .i64 0, .int .i64 0, .int .i64 0, .int .i64 0, .int .i64 0, .int .i64 0, .int .i64 0, .int .i64 0, .int .i64 0, .int .i64 0, .int .i64 0, .int .i64 0, .int .i64 0, .int .i64 0, .int .i64 0, .slice none 0 0] 133 (0,0)):=Qoq.get Qxo.out.2.1 hnb.1
  have J2l:Kp (λi=>i=s\/i=b1) wa we:=((Q1y.out.mono (T:=λi=>i=s\/i=b1) λ_ _ h=> .inl h).trans_no Qxo.out.2.2).trans_same (Qoq.mono λ_ _ h=> .inr h);have hse:Qjg T s w8 we:=⟨(M6.out.2.1.mono (T:=T) λ_ _ h=>(HT.out _).2 (.inr (.inr h))).trans_same (J2l.mono λi _ h=>(HT.out _).2 (h.imp id λh=> .inl h)),Q0 hes 4⟩;rw [<-hwe];refine ⟨hse,?_⟩;refine Q6 (λnq=>?_);obtain ⟨wf,hwf⟩: ∃W,W=we.drewN nq:=⟨_,rfl⟩;have Qyi:Kp No we wf:=by rw [hwf];exact (Kp.refl No we).drewN nq
  have Qx3:=J2l.trans_no Qyi;have Q3m:=M6.out.1.size;have Qjh:=Q3 H8.out.1;have hsz:s<w9.heap.size/\b1<w9.heap.size:=by have:=HB.out;omega
  have hWf:Lt wf d l Q ds st0 F1 G1:=M6.out.2.2.1.Gm Qx3 (λk hf hk=>by
   rcases M6.out.2.2.2.1 k hf with h1|h1
   ·rcases hk with rfl|rfl
    ·exact Qe8.out.2.1.1 h1
    ·exact Qe8.out.2.1.2.1 h1
   ·have h1:w9.heap.size<=k:=h1;omega) (λk hg hk=>by
   have h1:w9.heap.size<=k:=M6.out.2.2.2.2 k hg;omega)
  have HF:=zz (And.intro (Qyi.get hes λx=>x) (And.intro (Qyi.get J5d λx=>x) (And.intro (Qx3.get (M6.out.2.1.get H8.out.2.1 Qe8.out.1.2.2) λh=>h.elim hnb.2.1 hnb.2.2.1) (And.intro (Qx3.get (M6.out.2.1.get H8.out.2.2.2.1 Qe8.out.2.1.2.2) λh=>h.elim hnb.2.2.2.1 hnb.2.2.2.2) (And.intro hWf (And.intro (show Qv F F1 w from λk hf=>(M6.out.2.2.2.1 k hf).imp id λh1=>by
   have h1:w9.heap.size<=k:=h1;have h2:=H8.out.2.2.2.2.size;omega) (And.intro (show ∀k,G1 k->w.heap.size<=k/\k≠s/\k≠m/\k≠b0/\k≠b1 from λk hg=>by
   have h1:w9.heap.size<=k:=M6.out.2.2.2.2 k hg;have h2:=H8.out.2.2.2.2.size;have h3:=HB.out;omega) (And.intro (show Kp F w wf from (((Kp.of_no H8.out.2.2.2.2).trans_same M6.out.2.1).trans Qx3 λi hi hk=>by
   have h3:=HB.out;omega)) (show ∀k,F1 k->k≠s/\k≠m/\k≠b0/\k≠b1 from λk hf=>by
   rcases M6.out.2.2.2.1 k hf with h1|h1
   ·exact ⟨λe=>Qe8.out.2.1.1 (e▸h1),λe=>Qe8.out.2.1.2.2 (e▸h1),λe=>Qe8.out.1.2.2 (e▸h1),λe=>Qe8.out.2.1.2.1 (e▸h1)⟩
   ·have h1:w9.heap.size<=k:=h1;have h3:=HB.out;omega)))))))))
  rw [<-hwf];clear hwf Qyi Qx3 Q3m Qjh hsz hWf J2l Qoq hwe J5d hes hse hnb Qxo Q1y Qxn HAS M6 HT Qe8 E4 J45 g2 z2 l2 fa f4 H8;have Qy2:wf.cell? ⟨b1,0,none⟩=some (.int .i64 0):=Q0 HF.out.2.1 0;go_wp2_with fail
  refine (Ou 0 _).mono ?_;rintro e wx ⟨rfl,rfl⟩;clear Qy2;have J7o:wf.cell? ⟨b0,0,none⟩=some (.pointer (some ⟨s,0,none⟩)):=Q0 HF.out.2.2.1 0;have J9p:wf.cell? ⟨s,1,none⟩=some (.pointer (some ⟨l,0,none⟩)):=Q0 HF.out.1 1;have J1y:=Q3 HF.out.1;go_wp2_with fail
  have hnx:Calls Tryz.prog 100 #[.pointer (some ⟨l,0,none⟩)] wf λe w'=>e= .returned (.tuple #[.int .i64 1, .int .i64 1])/\Kp No wf w':=Qhk wf l d Q st0 G1 HF.out.2.2.2.2.1.log (by decide) (by decide);refine hnx.mono ?_;rintro e wg ⟨rfl,kg⟩;have hgs:=kg.get HF.out.1 λx=>x;have J7p:wg.cell? ⟨b0,0,none⟩=some (.pointer (some ⟨s,0,none⟩)):=Q0 (kg.get HF.out.2.2.1 λx=>x) 0;have J7q:wg.cell? ⟨s,4,none⟩=some (.int .i64 0):=Q0 hgs 4;have hsg:=Q3 hgs;have Qs8:=zz kg;clear kg hgs hnx J7o J9p J1y;go_wp2_with fail
  refine (Ou 3 _).mono ?_;rintro e wx ⟨rfl,rfl⟩;go_wp2_with fail
  go_loop [13] (λz=>z= .int .i64 1) (λ_=>0)
  case atStart=>rfl
  case round=>
   obtain rfl:=hrel;have fb: ∀W,Kp No wg W->W.cell? ⟨b0,0,none⟩=some (.pointer (some ⟨s,0,none⟩)):=λW hW=>Q0 (hW.get (Qs8.out.get HF.out.2.2.1 λx=>x) λx=>x) 0;have fs: ∀W,Kp No wg W->W.cell? ⟨s,4,none⟩=some (.int .i64 0):=λW hW=>Q0 (hW.get (Qs8.out.get HF.out.1 λx=>x) λx=>x) 4;clear J7p J7q;go_upto_region 21 with fail
   refine J4 (Kp No wg) [0,0,0,0,0,0,0,0,0,0,0,2] [0,1,2,3,4,5,6,7,8,9,10] 11 (by kernel_rfl) (by kernel_rfl) (λ_ n h=>h.drewN n) zK ?_;repeat (first|refine zA ?_|refine zB ?_|refine zC ?_)
   refine Yc (λn1=>?_);refine Q4 rfl rfl (λn2=>?_);obtain ⟨wh,hwh⟩: ∃W,W=(wg.drewN n1).drewN n2:=⟨_,rfl⟩;have Qrj:Kp No wg wh:=by rw [hwh];exact ((Kp.refl No wg).drewN n1).drewN n2
   have Qvq:=Qrj.get (Qs8.out.get HF.out.1 λx=>x) λx=>x;have c5:wh.cell? ⟨s,5,none⟩=some (.int .i64 0):=Q0 Qvq 5;have z5:=Qc Qvq 5;have lh:=Q3 Qvq;have Qp1:=zz (Qs8.out.trans_same Qrj);have J3i:=zz Qvq;rw [<-hwh];clear hwh Qrj Qvq fb fs;go_wp2_with fail
   intro nr;rw [show (-min (1:Int) 0)=0 from by decide];obtain ⟨wi,hwi⟩: ∃W,W=(wh.setCell ⟨s,5,none⟩ (.int .i64 0)).drewN nr:=⟨_,rfl⟩;have Qor:Kp (Mer.One s) wh wi:=by rw [hwi];exact ((Kp.refl (Mer.One s) wh).setCell (p:=⟨s,5,none⟩) (.inl (show Mer.One s s from rfl)) _).drewN nr
   have his:wi.heap[s]?=some (.cells #[.pointer (some ⟨d,0,none⟩), .pointer (some ⟨l,0,none⟩), .string P, .int .i64 (o:Int), .int .i64 0, .int .i64 0, .bool false, .map (some m), .int .i64 0, .int .i64 0,
  .int .i64 0, .int .i64 0, .int .i64 0, .int .i64 0, .int .i64 0, .int .i64 0, .int .i64 0, .int .i64 0, .int .i64 0, .int .i64 0, .int .i64 0, .int .i64 0, .int .i64 0, .int .i64 0, .int .i64 0, .slice none 0 0] 133 (0,0)):=by
    rw [hwi];exact Qh J3i.out 5 (.int .i64 0)
   have hnb:b0≠s/\b1≠s/\m≠s/\m≠b0/\m≠b1/\s≠b0/\s≠b1/\b0≠b1:=by have:=HB.out;omega
   have hi0:=Qor.get (Qp1.out.get HF.out.2.2.1 λx=>x) hnb.1;have hi1:=Qor.get (Qp1.out.get HF.out.2.1 λx=>x) hnb.2.1;have him:=Qor.get (Qp1.out.get HF.out.2.2.2.1 λx=>x) hnb.2.2.1;have Jad:wi.cell? ⟨b0,0,none⟩=some (.pointer (some ⟨s,0,none⟩)):=Q0 hi0 0;have Jae:wi.cell? ⟨b1,0,none⟩=some (.int .i64 0):=Q0 hi1 0;have Jb7:=Qc hi0 0;have Jb8:=Qc hi1 0;have Jau:=Q3 hi0;have Jav:=Q3 hi1;have n01: ¬b0=b1:=hnb.2.2.2.2.2.2.2;have n10: ¬b1=b0:=λe=>n01 e.symm;have HI:=zz (And.intro his (And.intro hi0 (And.intro hi1 (And.intro him (And.intro Qor hnb)))));rw [<-hwi];clear hwi Qor his hnb hi0 hi1 him c5 z5 lh J3i;go_wp2_with fail
   obtain ⟨wj,Qh5⟩: ∃W,W=(wi.setCell ⟨b0,0,none⟩ (.pointer (some ⟨s,0,none⟩))).setCell ⟨b1,0,none⟩ (.int .i64 0):=⟨_,rfl⟩;rw [<-Qh5]
   have Qyj:Kp (λi=>i=b0\/i=b1) wi wj:=by
    rw [Qh5];exact ((Kp.refl (λi=>i=b0\/i=b1) wi).setCell (p:=⟨b0,0,none⟩) (.inl (.inl rfl)) _).setCell (p:=⟨b1,0,none⟩) (.inl (.inr rfl)) _
   obtain ⟨his,hi0,hi1,him,Qor,hnb⟩:=HI.out;have J0f:=Qh hi0 0 (.pointer (some ⟨s,0,none⟩));have Quq:=Cg J0f (p:=⟨b1,0,none⟩) hnb.2.2.2.2.2.2.2 (.int .i64 0);have h1a:=Cg hi1 (p:=⟨b0,0,none⟩) (λe=>hnb.2.2.2.2.2.2.2 e.symm) (.pointer (some ⟨s,0,none⟩));have h1b:=Qh h1a 0 (.int .i64 0);rw [<-Qh5] at Quq h1b;refine Q8s (Q0 Quq 0) (Q0 h1b 0) _ rfl rfl _ ?_;have hjs:=Qyj.get his λh=>h.elim hnb.2.2.2.2.2.1 hnb.2.2.2.2.2.2.1;have hjm:=Qyj.get him λh=>h.elim hnb.2.2.2.1 hnb.2.2.2.2.1
   have hnew: ∀k,k=s\/k=b0\/k=b1\/k=m->w.heap.size<=k:=λk hk=>by
    have:=HB.out;omega
   have Qq0: ∀k,F1 k->k≠s/\k≠b0/\k≠b1:=λk hk=>by
    have:=HF.out.2.2.2.2.2.2.2.2 k hk;exact ⟨this.1,this.2.2.1,this.2.2.2⟩
   have J0p: ∀k,G1 k->k≠s/\k≠b0/\k≠b1:=λk hk=>by
    have:=HF.out.2.2.2.2.2.2.1 k hk;exact ⟨this.2.1,this.2.2.2.1,this.2.2.2.2⟩
   have hW1:=(HF.out.2.2.2.2.1.no Qp1.out).Gm Qor (λk hk e=>(Qq0 k hk).1 e) (λk hk e=>(J0p k hk).1 e);have hW2:=hW1.Gm Qyj (λk hk e=>e.elim (Qq0 k hk).2.1 (Qq0 k hk).2.2) (λk hk e=>e.elim (J0p k hk).2.1 (J0p k hk).2.2);refine ⟨s,l,m,F1,G1,rfl,⟨Qm1 hjs hjm,HQ.out▸hW2,λi hi hf=>?_,λi hi hf=>?_⟩,HF.out.2.2.2.2.2.1,λk hk=>(HF.out.2.2.2.2.2.2.1 k hk).1,λk hk=>?_,?_⟩
   ·rcases Q31 hi with e|e
    ·exact (HF.out.2.2.2.2.2.2.2.2 i hf).1 e
    ·exact (HF.out.2.2.2.2.2.2.2.2 i hf).2.1 e
   ·rcases Q31 hi with e|e
    ·exact (HF.out.2.2.2.2.2.2.1 i hf).2.1 e
    ·exact (HF.out.2.2.2.2.2.2.1 i hf).2.2.1 e
   ·rcases Q31 hk with e|e
    ·exact hnew k (.inl e)
    ·exact hnew k (.inr (.inr (.inr e)))
   ·refine ((HF.out.2.2.2.2.2.2.2.1.trans_no Qp1.out).trans Qor λi hi e=>?_).trans Qyj λi hi e=>?_
    ·have:=hnew i (.inl e);omega
    ·have:=hnew i (e.elim (λe=> .inr (.inl e)) λe=> .inr (.inr (.inl e)));omega
theorem Hs (P:ByteArray) (hP:P.size<=1000) (n:Nat) (hn:n<1000000) (w:World):
  Calls Tryz.prog 106 #[.string P, .int .i64 (n:Int)] w λe w'=>e= .returned (.string (Zp P n))/\Kp No w w':=by
 have hd:=Q5y n hn w;obtain ⟨D,hD⟩: ∃D:ByteArray,D=⟨(Lib.decDigits n).toArray⟩:=⟨_,rfl⟩;rw [<-hD] at hd
 have hDs:D.size<=7:=by
  have:=Q9s n (Nat.le_of_lt hn);rw [hD];show (Lib.decDigits n).toArray.size<=7
  simpa using this
 have HL:=zz (show (P++D)++(⟨#[46]⟩:ByteArray)=Zp P n from by
  rw [hD];apply ByteArray.ext
  unfold Zp;simp [ByteArray.data_append])
 have HC:=zz hd;clear hd hD;go_enter Tryz.func106,Tryz.ntmps106
 go_wp2_with fail
 refine HC.out.mono ?_;rintro e w1 ⟨rfl,k1⟩;have HK:=zz k1;clear k1;go_wp2_with fail
 go_ret
 exact ⟨congrArg (λs=>Ending.returned (.string s)) HL.out,HK.out⟩
theorem Q3e {w:World} {r:Nat} {s:Qu} {F:Nat->Prop} (hD:Di w r s F) (name:ByteArray) (hn:Qo s.files name=none):
  Calls Tryz.prog 104 #[.pointer (some ⟨r,0,none⟩), .string name] w λe w'=>e= .returned (.tuple #[.int .i64 0, .int .i64 0])/\Kp No w w':=by
 have hr:=Q1l w r s F hD name;have h2:Dz s.files name=([],7):=by unfold Dz;rw [hn]
 unfold Oz at hr;rw [h2] at hr;have HR:=zz hr;clear hr hD hn h2;go_enter Tryz.func104,Tryz.ntmps104
 go_wp2_with fail
 refine HR.out.mono ?_;rintro e w1 ⟨v,rfl,_,k1,_⟩;have HK:=zz k1;clear k1;go_wp2_with fail
 go_ret2
 exact ⟨rfl,HK.out⟩
theorem Q6r {w:World} {r:Nat} {s:Qu} {F:Nat->Prop} (hD:Di w r s F) (hds:s.files=[]) (A B C:ByteArray):
  Calls Tryz.prog 105 #[.pointer (some ⟨r,0,none⟩), .string A, .string B, .string C] w λe w'=>e= .returned (.int .i64 0)/\Kp No w w':=by
 have hr:=A9 w r s F hD;have HR:=zz hr;have Qay:=zz hds;clear hr hD hds;go_enter Tryz.func105,Tryz.ntmps105
 go_wp2_with fail
 refine HR.out.mono ?_;rintro e w1 ⟨N,a,c,rfl,_,hp,_,k1⟩;have hp:=hp;rw [Qay.out,List.map_nil] at hp;obtain rfl:=hp.eq_nil;have HK:=zz k1;clear k1 hp;simp only [List.length_nil];go_wp2_with fail
 go_loop [10] (λz=>z= .int .i64 0) (λ_=>0)
 case atStart=>rfl
 case round=>
  obtain rfl:=hrel;go_wp2_with fail
  go_ret
  exact ⟨rfl,HK.out⟩
theorem Qm2 {w:World} {_x r y o:Nat} {P:ByteArray} (hs:w.heap[_x]?=some (.cells #[.pointer (some ⟨r,0,none⟩), .string P, .int .i64 (o:Int), .pointer (some ⟨y,0,none⟩), .int .i64 0, .slice none 0 0, .int .i64 0, .int .i64 0,
  .int .i64 0, .int .i64 0, .int .i64 0, .int .i64 0, .int .i64 0, .int .i64 0, .int .i64 0, .int .i64 0, .int .i64 0, .int .i64 0, .int .i64 0, .int .i64 0, .int .i64 0, .int .i64 0, .int .i64 0, .slice none 0 0, .int .i64 0, .bool false] 64 (0,0))):Xx w _x r y P o X0 none 0 [] none 0 []:=
 ⟨hs,Own.nil _ _ _,⟨λ_ hp=>absurd hp List.not_mem_nil,List.nodup_nil,List.nodup_nil,List.nodup_nil⟩,⟨Own.nil _ _ _,λ_x hx=>absurd hx List.not_mem_nil⟩,rfl,rfl⟩
theorem A2 {x k:Nat} (h:Jj x none 0 [] none 0 [] k):k=x:=by
 rcases h with h|h|⟨p,hp,_⟩|h|⟨x,hx,_⟩
 ·exact h
 ·simp [Value.ownBlock] at h
 ·exact absurd hp List.not_mem_nil
 ·simp [Value.ownBlock] at h
 ·exact absurd hx List.not_mem_nil
theorem Q0o (w:World) (r:Nat) (P:ByteArray) (o:Nat) (ds:Qu) (F:Nat->Prop) (hD:Di w r ds F) (hds:ds.files=[]) (hP1:1<=P.size) (hP2:P.size<=20) (hroom:ds.room<=4194304) (ho:o<5):
  Calls Tryz.prog 51 #[.pointer (some ⟨r,0,none⟩), .string P, .int .i64 (o:Int)] w λe w'=> ∃x y F' G',e= .returned (.tuple #[.pointer (some ⟨x,0,none⟩), .int .i64 0])/\G4 w' x r y P (Zp P 0) o X0 none 0 [] none 0 [] ds st0 F' G'/\
   Qv F F' w/\(∀k,G' k->w.heap.size<=k)/\w.heap.size<=x/\Kp F w w':=by
 have e1:decide ((P.size:Int)<1)=false:=decide_eq_false (by omega);have e2:decide (20<(P.size:Int))=false:=decide_eq_false (by omega);have e3:decide ((o:Int)<0)=false:=decide_eq_false (by omega);have e4:decide (5<=(o:Int))=false:=decide_eq_false (by omega);have e1':decide (P.size<1)=false:=decide_eq_false (by omega);have e2':decide (20<P.size)=false:=decide_eq_false (by omega);have e4':decide (5<=o)=false:=decide_eq_false (by omega);have HD:=zz hD;have Qay:=zz hds;have Qpb:=zz (And.intro hroom (And.intro hP1 (And.intro hP2 ho)))
 obtain ⟨W1,hW1⟩: ∃W,W=w.alloc (.cells #[.pointer (some ⟨r,0,none⟩), .string P, .int .i64 (o:Int), .pointer none, .int .i64 0, .slice none 0 0, .int .i64 0, .int .i64 0,
  .int .i64 0, .int .i64 0, .int .i64 0, .int .i64 0, .int .i64 0, .int .i64 0, .int .i64 0, .int .i64 0, .int .i64 0, .int .i64 0, .int .i64 0, .int .i64 0, .int .i64 0, .int .i64 0, .int .i64 0, .slice none 0 0, .int .i64 0, .bool false] 64):=⟨_,rfl⟩
 have k1:Kp No w W1:=by rw [hW1];exact zK.alloc _
 obtain ⟨x,hx⟩: ∃x,x=w.heap.size:=⟨_,rfl⟩
 have b1:W1.heap[x]?=some (.cells #[.pointer (some ⟨r,0,none⟩), .string P, .int .i64 (o:Int), .pointer none, .int .i64 0, .slice none 0 0, .int .i64 0, .int .i64 0,
  .int .i64 0, .int .i64 0, .int .i64 0, .int .i64 0, .int .i64 0, .int .i64 0, .int .i64 0, .int .i64 0, .int .i64 0, .int .i64 0, .int .i64 0, .int .i64 0, .int .i64 0, .int .i64 0, .int .i64 0, .slice none 0 0, .int .i64 0, .bool false] 64 (0,0)):=by rw [hW1,hx];exact heap_alloc_new w _
 have HX:=zz hx;have H1:=zz (And.intro k1 b1);have HW:=zz hW1;clear hD hds hroom k1 b1 hW1;go_enter Tryz.func51,Tryz.ntmps51
 go_upto_region 4 with fail
 rw [<-hx,<-HW.out];clear hx;go_wp2_with fail
 refine (Q3e (HD.out.Q5 H1.out.1) _ (by rw [Qay.out];rfl)).mono ?_;rintro e w2 ⟨rfl,k2⟩;have H2:=zz (And.intro (H1.out.1.trans_same k2) (k2.get H1.out.2 λx=>x));have f4:=Qc H2.out.2 4;have c4:w2.cell? ⟨x,4,none⟩=some (.int .i64 0):=Q0 H2.out.2 4;have l2:=Q3 H2.out.2;clear k2;go_upto_region 8 with fail
 obtain ⟨w3,hw3⟩: ∃W,W=w2.setCell ⟨x,4,none⟩ (.int .i64 0):=⟨_,rfl⟩;have k3:Kp (Mer.One x) w2 w3:=by rw [hw3];exact (Kp.refl (Mer.One x) w2).setCell (p:=⟨x,4,none⟩) (.inl (show Mer.One x x from rfl)) _
 have b3:=Qh H2.out.2 4 (.int .i64 0);rw [<-hw3] at b3⊢
 have Qln:Kp No w w3:=H2.out.1.trans k3 λi hi e=>by
  have:=HX.out;have e:i=x:=e;omega
 have H3:=zz (And.intro Qln b3);clear f4 c4 l2 hw3 k3 b3 Qln;go_wp2_with fail
 refine (Hs P (by have:=Qpb.out.2.2.1;omega) 0 (by decide) _).mono ?_;rintro e w4 ⟨rfl,k4⟩;have H4:=zz (And.intro (H3.out.1.trans_same k4) (k4.get H3.out.2 λx=>x));clear k4;obtain ⟨Q,hQ⟩: ∃Q,Q=Zp P 0:=⟨_,rfl⟩;rw [<-hQ];have HQ:=zz hQ;clear hQ;go_wp2_with fail
 refine (Q6r (HD.out.Q5 H4.out.1) Qay.out _ _ _).mono ?_;rintro e w5 ⟨rfl,k5⟩;have H5:=zz (And.intro (H4.out.1.trans_same k5) (k5.get H4.out.2 λx=>x));clear k5;go_wp2_with fail
 refine (Hs P (by have:=Qpb.out.2.2.1;omega) 0 (by decide) _).mono ?_;rintro e w6 ⟨rfl,k6⟩;have H6:=zz (And.intro (H5.out.1.trans_same k6) (k6.get H5.out.2 λx=>x));clear k6;rw [<-HQ.out];have hop:=Q9d (P:=P) (HD.out.Q5 H6.out.1) Qay.out Qpb.out.2.2.1;rw [<-HQ.out] at hop;have Q7a:=zz hop;clear hop;go_wp2_with fail
 refine Q7a.out.mono ?_;rintro e w7 ⟨y,F1,G1,rfl,Qsq,J4y,J50,k7⟩
 have hFx: ¬F x:=λhf=>by
  have:=HD.out.lt x hf;have:=HX.out;omega
 have b7:=k7.get H6.out.2 hFx;have H7:=zz (And.intro Qsq (And.intro J4y (And.intro J50 k7)));have Is:=zz b7;have f7:=Qc b7 3;have c7:w7.cell? ⟨x,3,none⟩=some (.pointer none):=Q0 b7 3;have l7:=Q3 b7;clear Qsq J4y J50 k7 b7 Q7a;go_upto_region 12 with fail
 obtain ⟨w8,hw8⟩: ∃W,W=w7.setCell ⟨x,3,none⟩ (.pointer (some ⟨y,0,none⟩)):=⟨_,rfl⟩;have k8:Kp (Mer.One x) w7 w8:=by rw [hw8];exact (Kp.refl (Mer.One x) w7).setCell (p:=⟨x,3,none⟩) (.inl (show Mer.One x x from rfl)) _
 have b8:w8.heap[x]?=some (.cells #[.pointer (some ⟨r,0,none⟩), .string P, .int .i64 (o:Int), .pointer (some ⟨y,0,none⟩), .int .i64 0, .slice none 0 0, .int .i64 0, .int .i64 0,
  .int .i64 0, .int .i64 0, .int .i64 0, .int .i64 0, .int .i64 0, .int .i64 0, .int .i64 0, .int .i64 0, .int .i64 0, .int .i64 0, .int .i64 0, .int .i64 0, .int .i64 0, .int .i64 0, .int .i64 0, .slice none 0 0, .int .i64 0, .bool false] 64 (0,0)):=by
  rw [hw8];exact Qh Is.out 3 (.pointer (some ⟨y,0,none⟩))
 rw [<-hw8]
 have J25: ∀k,F1 k->k≠x:=λk hk e=>by
  rcases H7.out.2.1 k hk with h1|h1
  ·exact hFx (e▸h1)
  ·have:=Q3 H6.out.2;omega
 have J26: ∀k,G1 k->k≠x:=λk hk e=>by
  have h1:=H7.out.2.2.1 k hk;have:=Q3 H6.out.2;omega
 have Q0j:N9 w8 r y Q ds st0 F1 G1:=⟨H7.out.1.disk.keep k8 λk hk e=>J25 k hk e,H7.out.1.log.keep k8 λk hk e=>J26 k hk e,H7.out.1.sep⟩;obtain ⟨sv,ev,E,hRL,hE,_⟩:=Q0j.log;have hE0:E=[]:=List.eq_nil_of_map_eq_nil (show E.map Row.data=[] from hE.symm);subst hE0;obtain ⟨_,ea,ec,rfl,_⟩:=hRL.Qn;have cy:=hRL.cells.2.2.1 w8 zK;have ly:=Q3 hRL.cell;have cx:w8.cell? ⟨x,3,none⟩=some (.pointer (some ⟨y,0,none⟩)):=Q0 b8 3;have lx:=Q3 b8;have hH: ∃x y F' G',Ending.returned (.tuple #[.pointer (some ⟨x,0,none⟩), .int .i64 0])= .returned (.tuple #[.pointer (some ⟨x,0,none⟩), .int .i64 0]):=⟨x,y,F1,G1,rfl⟩
 have HF:=zz (show G4 w8 x r y P (Zp P 0) o X0 none 0 [] none 0 [] ds st0 F1 G1/\Qv F F1 w/\(∀k,G1 k->w.heap.size<=k)/\w.heap.size<=x/\Kp F w w8 from by
  refine ⟨⟨Qm2 b8,HQ.out▸Q0j,λi hi hf=>J25 i hf (A2 hi),λi hi hf=>J26 i hf (A2 hi)⟩,λk hk=>?_,λk hk=>?_,Nat.le_of_eq HX.out.symm,?_⟩
  ·rcases H7.out.2.1 k hk with h1|h1
   ·exact .inl h1
   ·have:=H6.out.1.size;exact .inr (by omega)
  ·have h1:=H7.out.2.2.1 k hk;have:=H6.out.1.size;omega
  ·refine ((Kp.of_no H6.out.1).trans_same H7.out.2.2.2).trans k8 λi hi e=>?_;have:=HX.out;have e:i=x:=e;omega)
 clear hH f7 c7 l7 hw8 k8 b8 Q0j hRL hE J25 J26;go_wp2_with fail
 go_loop [11] (λz=>z= .int .i64 0) (λ_=>0)
 case atStart=>rfl
 case round=>
  obtain rfl:=hrel;go_wp2_with fail
  go_ret2
  exact ⟨x,rfl,y,F1,G1,HF.out⟩
def Qk6 (w:World) (s d:Nat) (P:ByteArray) (o:Nat) (st:J7) (ds:Qu) (lg:J2) (B:Nat) (H:Nat->Prop):Prop:=
 ∃l m cs ka kc K F G,Q0u w s d l P (Zp P st.Xu) o st m cs ka kc K ds lg F G/\(∀p∈cs,p.2.R.length<=B)/\K.length<=B/\(∀k,X6 s m cs ka kc K k\/F k\/G k->H k)/\ ∀k,H k->k<w.heap.size
theorem Q0u.Gm {w w':World} {s d l o m:Nat} {P Q:ByteArray} {st:J7} {cs:Z7} {ka:Option Addr} {kc:Nat} {K:List Qa} {ds:Qu} {lg:J2} {F G S:Nat->Prop} (h:Q0u w s d l P Q o st m cs ka kc K ds lg F G) (hk:Kp S w w') (hS: ∀k,X6 s m cs ka kc K k\/F k\/G k-> ¬S k):Q0u w' s d l P Q o st m cs ka kc K ds lg F G:=
 ⟨h.st.keep hk λk hf=>hS k (.inl hf),h.at_.Gm hk (λk hf=>hS k (.inr (.inl hf))) (λk hf=>hS k (.inr (.inr hf))),h.sF,h.sG⟩
theorem Qk6.keep {w w':World} {s d o B:Nat} {P:ByteArray} {st:J7} {ds:Qu} {lg:J2} {H S:Nat->Prop} (h:Qk6 w s d P o st ds lg B H) (hk:Kp S w w') (hS: ∀k,H k-> ¬S k):Qk6 w' s d P o st ds lg B H:=by
 obtain ⟨l,m,cs,ka,kc,K,F,G,h1,h2,h3,h4,h5⟩:=h;exact ⟨l,m,cs,ka,kc,K,F,G,h1.Gm hk (λk hf=>hS k (h4 k hf)),h2,h3,h4,λk hf=>hk.lt (h5 k hf)⟩
theorem Qk6.lt {w:World} {s d o B:Nat} {P:ByteArray} {st:J7} {ds:Qu} {lg:J2} {H:Nat->Prop} (h:Qk6 w s d P o st ds lg B H): ∀k,H k->k<w.heap.size:=by
 obtain ⟨_,_,_,_,_,_,_,_,_,_,_,_,h⟩:=h;exact h
theorem Yt.J0b {w:World} {s d l o m B:Nat} {P:ByteArray} {st:J7} {cs:Z7} {ka:Option Addr} {kc:Nat} {K:List Qa} (h:Yt w s d l P o st m cs ka kc K) (hinv:Inv o st) (hB:B<=1000000) (hc: ∀p∈cs,p.2.R.length<=B):Qsy cs:=λp hp=>by
 refine ⟨Nat.le_trans (hc p hp) hB,λv hv=>?_⟩;have h1:(p.1,p.2.vs)∈st.keys:=h.perm.mem_iff.1 (List.mem_map.2 ⟨p,hp,rfl⟩);exact ((hinv.keys _ h1).2.2.2.2 v hv).1
def Qk7 (w:World) (x r:Nat) (P:ByteArray) (o:Nat) (st:J7) (ds:Qu) (lg:J2) (B:Nat) (H:Nat->Prop):Prop:=
 ∃y la lc cs ka kc K F G,G4 w x r y P (Zp P st.Xu) o st la lc cs ka kc K ds lg F G/\(∀p∈cs,p.2.R.length<=B)/\K.length<=B/\(∀k,Jj x la lc cs ka kc K k\/F k\/G k->H k)/\ ∀k,H k->k<w.heap.size
theorem G4.Gm {w w':World} {x r y o:Nat} {P Q:ByteArray} {st:J7} {la ka:Option Addr} {lc kc:Nat} {cs:Z7} {K:List Qa} {ds:Qu} {lg:J2} {F G S:Nat->Prop} (h:G4 w x r y P Q o st la lc cs ka kc K ds lg F G) (hk:Kp S w w') (hS: ∀k,Jj x la lc cs ka kc K k\/F k\/G k-> ¬S k):G4 w' x r y P Q o st la lc cs ka kc K ds lg F G:=
 ⟨h.st.keep hk λk hf=>hS k (.inl hf),⟨h.at_.disk.keep hk λk hf=>hS k (.inr (.inl hf)),h.at_.log.keep hk λk hf=>hS k (.inr (.inr hf)),h.at_.sep⟩,h.sF,h.sG⟩
theorem Qk7.keep {w w':World} {x r o B:Nat} {P:ByteArray} {st:J7} {ds:Qu} {lg:J2} {H S:Nat->Prop} (h:Qk7 w x r P o st ds lg B H) (hk:Kp S w w') (hS: ∀k,H k-> ¬S k):Qk7 w' x r P o st ds lg B H:=by
 obtain ⟨y,la,lc,cs,ka,kc,K,F,G,h1,h2,h3,h4,h5⟩:=h;exact ⟨y,la,lc,cs,ka,kc,K,F,G,h1.Gm hk (λk hf=>hS k (h4 k hf)),h2,h3,h4,λk hf=>hk.lt (h5 k hf)⟩
theorem Qk7.lt {w:World} {s d o B:Nat} {P:ByteArray} {st:J7} {ds:Qu} {lg:J2} {H:Nat->Prop} (h:Qk7 w s d P o st ds lg B H): ∀k,H k->k<w.heap.size:=by
 obtain ⟨_,_,_,_,_,_,_,_,_,_,_,_,_,h⟩:=h;exact h
structure Jm (w0 w:World) (p d s r x:Nat) (P:ByteArray) (o:Nat) (st:J7) (ds:Qu) (lg:J2) (st':J7) (ds':Qu) (X4:J2) (B:Nat) (H1 H2:Nat->Prop):Prop where
 cell:w.heap[p]?=some (.cells #[Xg d,Xg s,Xg r,Xg x] 39 (0,0))
 prog:Qk6 w s d P o st ds lg B H1
 ref:Qk7 w x r P o st' ds' X4 B H2
 sep: ∀k,H1 k-> ¬H2 k
 p1: ¬H1 p
 p2: ¬H2 p
 new:w0.heap.size<=p/\(∀k,H1 k->w0.heap.size<=k)/\ ∀k,H2 k->w0.heap.size<=k
 kp:Kp No w0 w
theorem Jm.no {w0 w w':World} {p d s r x o B:Nat} {P:ByteArray} {st st':J7} {ds ds':Qu} {lg X4:J2} {H1 H2:Nat->Prop} (h:Jm w0 w p d s r x P o st ds lg st' ds' X4 B H1 H2) (hk:Kp No w w'):Jm w0 w' p d s r x P o st ds lg st' ds' X4 B H1 H2:=
 ⟨hk.get h.cell λx=>x,h.prog.keep hk λ_ _ x=>x,h.ref.keep hk λ_ _ x=>x,h.sep,h.p1,h.p2,h.new,h.kp.trans_same hk⟩
theorem Jm.at_ {w0 w w':World} {p d s r x o B:Nat} {P:ByteArray} {st st':J7} {ds ds':Qu} {lg X4:J2} {H1 H2:Nat->Prop} (h:Jm w0 w p d s r x P o st ds lg st' ds' X4 B H1 H2) (hk:Kp No w w') (i:Nat):w'.cell? ⟨p,i,none⟩=(#[Xg d,Xg s,Xg r,Xg x]:Array Value)[i]?:=Q0 (hk.get h.cell λx=>x) i
theorem Q5q (w0 w:World) (p d r:Nat) (ds:Qu) (F H:Nat->Prop) (hp:w.heap[p]?=some (.cells #[.pointer (some ⟨d,0,none⟩), .pointer none, .pointer (some ⟨r,0,none⟩), .pointer none] 39 (0,0))) (hD:Zd w d ds F) (hR:Di w r ds H) (Qy7: ∀k,F k-> ¬H k) (Qy8: ¬F p) (Qya: ¬H p)
  (hds:ds.files=[]) (hroom:ds.room<=1048576) (Y4:Pow w) (C3: ¬F 0) (hk0:Kp No w0 w) (Qux: ∀k,F k->w0.heap.size<=k) (hH0: ∀k,H k->w0.heap.size<=k) (hp0:w0.heap.size<=p):
  Calls Tryz.prog 43 #[.pointer (some ⟨p,0,none⟩)] w λe w'=>e= .returned (.bool true)/\ ∃s x H1 H2,Jm w0 w' p d s r x ⟨#[109]⟩ 0 X0 ds st0 X0 ds st0 0 H1 H2:=by
 have hop:=Q64 w d ⟨#[109]⟩ 0 ds F hD hds Y4 C3 (by decide) (by decide) hroom (by decide);have c0:w.cell? ⟨p,0,none⟩=some (.pointer (some ⟨d,0,none⟩)):=Q0 hp 0;have lp:=Q3 hp;have Q7a:=zz hop;have HP:=zz hp;have HR:=zz (And.intro hR (And.intro hds hroom));have HD:=zz hD;have HN:=zz (And.intro Qy7 (And.intro Qy8 (And.intro Qya (And.intro hk0 (And.intro Qux (And.intro hH0 hp0))))));clear hop hp hR hD Qy7 Qy8 Qya hk0 Qux hH0 hp0 hds hroom Y4 C3;go_enter Tryz.func43,Tryz.ntmps43
 go_wp2_with fail
 refine Q7a.out.mono ?_;rintro e w1 ⟨s,l,m,F1,G1,rfl,hS,hF1,hG1,hS1,k1⟩;have b1:=k1.get HP.out HN.out.2.1;have hR1:=HR.out.1.keep k1 λk hk hf=>HN.out.1 k hf hk;have c2:w1.cell? ⟨p,2,none⟩=some (.pointer (some ⟨r,0,none⟩)):=Q0 b1 2;have l1:=Q3 b1;have hop:=Q0o w1 r ⟨#[109]⟩ 0 ds H hR1 HR.out.2.1 (by decide) (by decide) (by have:=HR.out.2.2;omega) (by decide);have Qtr:=zz hop;have H1:=zz (And.intro hS (And.intro hF1 (And.intro hG1 (And.intro hS1 k1))));have HB1:=zz b1;have HR1:=zz hR1;clear hS hF1 hG1 hS1 k1 b1 hR1 hop Q7a c0 lp;go_wp2_with fail
 refine Qtr.out.mono ?_;rintro e w2 ⟨x,y,F2,G2,rfl,hX,hF2,hG2,hx2,k2⟩;have b2:=k2.get HB1.out HN.out.2.2.1;have f1:=Qc b2 1;have f3:=Qc b2 3;have d1:w2.cell? ⟨p,1,none⟩=some (.pointer none):=Q0 b2 1;have d3:w2.cell? ⟨p,3,none⟩=some (.pointer none):=Q0 b2 3;have l2:=Q3 b2;have H2:=zz (And.intro hX (And.intro hF2 (And.intro hG2 (And.intro hx2 k2))));have HB2:=zz b2;clear hX hF2 hG2 hx2 k2 b2 Qtr c2 l1;go_wp2_with fail
 obtain ⟨w3,hw3⟩: ∃W,W=(w2.setCell ⟨p,1,none⟩ (.pointer (some ⟨s,0,none⟩))).setCell ⟨p,3,none⟩ (.pointer (some ⟨x,0,none⟩)):=⟨_,rfl⟩
 have k3:Kp (Mer.One p) w2 w3:=by
  rw [hw3];exact ((Kp.refl (Mer.One p) w2).setCell (p:=⟨p,1,none⟩) (.inl (show Mer.One p p from rfl)) _).setCell (p:=⟨p,3,none⟩) (.inl (show Mer.One p p from rfl)) _
 have b3:w3.heap[p]?=some (.cells #[Xg d,Xg s,Xg r,Xg x] 39 (0,0)):=by
  rw [hw3,Qh (Qh HB2.out 1 _) 3 _];rfl
 rw [<-hw3];clear hw3;go_ret
 obtain ⟨hS,hF1,hG1,hS1,k1⟩:=H1.out;obtain ⟨hX,hF2,hG2,hx2,k2⟩:=H2.out;obtain ⟨Qy7,Qy8,Qya,hk0,Qux,hH0,hp0⟩:=HN.out;have lp:=Q3 HP.out;have Kb:=HD.out.lt;have Qy9:=HR.out.1.lt;have s1:=k1.size;have s2:=k2.size;have s0:=hk0.size
 have J0q: ∀k,X6 s m [] none 0 [] k\/F1 k\/G1 k->F k\/w.heap.size<=k:=by
  rintro k (h|h|h)
  ·exact .inr (hS1 k h)
  ·exact hF1 k h
  ·exact .inr (hG1 k h)
 have hHB: ∀k,Jj x none 0 [] none 0 [] k\/F2 k\/G2 k->H k\/w1.heap.size<=k:=by
  rintro k (h|h|h)
  ·rw [A2 h];exact .inr hx2
  ·exact hF2 k h
  ·exact .inr (hG2 k h)
 have hAl: ∀k,X6 s m [] none 0 [] k\/F1 k\/G1 k->k<w1.heap.size:=by
  rintro k (h|h|h)
  ·exact hS.st.lt k h
  ·exact hS.at_.disk.lt k h
  ·exact hS.at_.log.lt k h
 have hBl: ∀k,Jj x none 0 [] none 0 [] k\/F2 k\/G2 k->k<w2.heap.size:=by
  rintro k (h|h|h)
  ·exact hX.st.lt k h
  ·exact hX.at_.disk.lt k h
  ·exact hX.at_.log.lt k h
 have J4s: ∀k,X6 s m [] none 0 [] k\/F1 k\/G1 k-> ¬H k:=λk hk hh=>by
  rcases J0q k hk with h|h
  ·exact Qy7 k h hh
  ·have:=Qy9 k hh;omega
 have J4t: ¬(X6 s m [] none 0 [] p\/F1 p\/G1 p):=λhh=>by
  rcases J0q p hh with h|h
  ·exact Qy8 h
  ·omega
 have Quw: ¬(Jj x none 0 [] none 0 [] p\/F2 p\/G2 p):=λhh=>by
  rcases hHB p hh with h|h
  ·exact Qya h
  ·omega
 refine ⟨rfl,s,x,_,_,⟨b3,⟨l,m,[],none,0,[],F1,G1,(hS.Gm k2 J4s).Gm k3 (λk hk e=>J4t ((show k=p from e)▸hk)),λ_ h=>absurd h List.not_mem_nil,Nat.le_refl _,λ_ h=>h,λk hk=>k3.lt (k2.lt (hAl k hk))⟩,
  ⟨y,none,0,[],none,0,[],F2,G2,hX.Gm k3 (λk hk e=>Quw ((show k=p from e)▸hk)),λ_ h=>absurd h List.not_mem_nil,Nat.le_refl _,λ_ h=>h,λk hk=>k3.lt (hBl k hk)⟩,λk hk hh=>?_,J4t,Quw,⟨hp0,λk hk=>?_,λk hk=>?_⟩,?_⟩⟩
 ·rcases hHB k hh with h|h
  ·exact J4s k hk h
  ·have:=hAl k hk;omega
 ·rcases J0q k hk with h|h
  ·exact Qux k h
  ·omega
 ·rcases hHB k hk with h|h
  ·exact hH0 k h
  ·omega
 ·refine ((hk0.trans k1 λi hi hf=>?_).trans k2 λi hi hf=>?_).trans k3 λi hi hf=>?_
  ·have:=Qux i hf;omega
  ·have:=hH0 i hf;omega
  ·have hf:i=p:=hf;omega
theorem Mz (w:World) (room:Nat) (Y4:Pow w) (hroom:room<=1048576):
  Calls Tryz.prog 15 #[.int .i64 (room:Int)] w λe w'=> ∃p d s r x H1 H2,e= .returned (.tuple #[.pointer (some ⟨p,0,none⟩), .bool true])/\Jm w w' p d s r x ⟨#[109]⟩ 0 X0 ⟨room,none,[]⟩ st0 X0 ⟨room,none,[]⟩ st0 0 H1 H2:=by
 have Q0c:=zz Y4;go_enter Tryz.func15,Tryz.ntmps15
 go_wp2_with fail
 refine (Qlw room w (by omega)).mono ?_;rintro e w1 ⟨rfl,hk1,F,hD1,hF1⟩;have H1:=zz (And.intro hk1 (And.intro hD1 hF1));obtain ⟨d,hd⟩: ∃d,d=w.heap.size+1:=⟨_,rfl⟩;rw [<-hd] at H1⊢;clear hk1 hD1 hF1 hd Y4;go_wp2_with fail
 refine (Qhz room w1 (by omega)).mono ?_;rintro e w2 ⟨r,rfl,hk2,H,hR2,hH2⟩;obtain ⟨W3,hW3⟩: ∃V,V=w2.alloc (.cells #[.pointer (some ⟨d,0,none⟩), .pointer none, .pointer (some ⟨r,0,none⟩), .pointer none] 39):=⟨_,rfl⟩;have k3:Kp No w2 W3:=by rw [hW3];exact zK.alloc _
 have hq3:W3.heap[w2.heap.size]?=some (.cells #[.pointer (some ⟨d,0,none⟩), .pointer none, .pointer (some ⟨r,0,none⟩), .pointer none] 39 (0,0)):=by rw [hW3];exact heap_alloc_new w2 _
 have Kb:=H1.out.2.1.lt;have Qy9:=hR2.lt;have s1:=H1.out.1.size;have s2:=hk2.size;have Qln:=(H1.out.1.trans_same hk2).trans_same k3
 have hop:=Q5q w W3 w2.heap.size d r ⟨room,none,[]⟩ F H hq3 ((H1.out.2.1.Q5 hk2).Q5 k3) (hR2.Q5 k3) (λk hf hh=>by have:=Kb k hf;have:=hH2 k hh;omega) (λhf=>by have:=Kb _ hf;omega) (λhf=>by have:=Qy9 _ hf;omega) rfl hroom (Q0c.out.keep Qln)
  (λhf=>by have:=H1.out.2.2 _ hf;have:=Q0c.out.lt;omega) Qln H1.out.2.2 (λk hk=>by have:=hH2 k hk;omega) (by omega)
 have Q7a:=zz hop;obtain ⟨p,hp⟩: ∃p,p=w2.heap.size:=⟨_,rfl⟩;rw [<-hp] at Q7a;clear hk2 hR2 hH2 hq3 hop k3 Qln Kb Qy9 s1 s2;go_upto_region 8 with fail
 rw [<-hW3,<-hp];clear hW3 hp;go_wp2_with fail
 refine Q7a.out.mono ?_;rintro e w4 ⟨rfl,s,x,Q0p,Q6t,hP⟩;have HF:=zz hP;clear hP;go_wp2_with fail
 go_ret2
 exact ⟨p,d,s,r,x,Q0p,Q6t,rfl,HF.out⟩
section
variable {w0 w:World} {p d s r x o B:Nat} {P:ByteArray} {st st':J7} {ds ds':Qu} {lg X4:J2} {H1 H2:Nat->Prop}
theorem Jm.put {k:Nat} (h:Jm w0 w p d s r x P o st ds lg st' ds' X4 B H1 H2) (hinv:Inv o st) (hfit:Fit k (Zp P st.Xu) ds lg) (hk:k<=3000) (Y4:Pow w) (hp0:0<w0.heap.size) (hQ:(Zp P st.Xu).size<=50) (hnb:st.n<=1000000)
  (a:Option Addr) (cap:Nat) (L:List Qa) (hL: ∀W,Kp H1 w W->V2 W a L) (hc:L.length<=cap) (hcm:L.length<=1000000) (hB:B<=900000) (C1:(Jd P o ds st lg (L.map Qa.r)).2.2.1.Xu=st.Xu):
  Calls Tryz.prog 18 #[.pointer (some ⟨s,0,none⟩), .slice a L.length cap] w λe w'=>e= .returned (.int .i64 (Jd P o ds st lg (L.map Qa.r)).1)/\ ∃Q0p,
   Jm w0 w' p d s r x P o (Jd P o ds st lg (L.map Qa.r)).2.2.1 (Jd P o ds st lg (L.map Qa.r)).2.1 (Jd P o ds st lg (L.map Qa.r)).2.2.2 st' ds' X4 (B+64) Q0p H2/\Qv H1 Q0p w/\Kp H1 w w':=by
 obtain ⟨l,m,cs,ka,kc,K,F,G,h1,h2,h3,h4,h5⟩:=h.prog
 have hg: ∀k,H1 k->k≠0:=λk hk e=>by
  have:=h.new.2.1 k hk;omega
 have hp:=Qi6 h1 hinv rfl hfit hk Y4 (λhf=>hg _ (h4 _ (.inr (.inl hf))) rfl) (λhf=>hg _ (h4 _ (.inr (.inr hf))) rfl) hQ hnb a cap L (λW hW=>hL W (hW.mono λi _ hi=>h4 i hi)) hc hcm B hB h2 h3;have Qo1:=C1.symm;obtain ⟨q,hq⟩: ∃q,q=Jd P o ds st lg (L.map Qa.r):=⟨_,rfl⟩;rw [<-hq] at hp C1 Qo1⊢;refine hp.mono ?_;rintro e w' ⟨rfl,cs',I8,M3,K',F',G',k1,k2,k3,k4,k5,k6,k7⟩;have Qa7:Kp H1 w w':=k5.mono λi _ hi=>h4 i hi
 have hf: ∀k,X6 s m cs' I8 M3 K' k\/F' k\/G' k->H1 k\/w.heap.size<=k:=by
  rintro k (hk|hk|hk)
  ·exact (k2 k hk).imp (λh=>h4 k (.inl h)) id
  ·exact (k3 k hk).imp (λh=>h4 k (.inr (.inl h))) id
  ·exact (k4 k hk).imp (λh=>h4 k (.inr (.inr h))) id
 have hl: ∀k,X6 s m cs' I8 M3 K' k\/F' k\/G' k->k<w'.heap.size:=by
  rintro k (hk|hk|hk)
  ·exact k1.st.lt k hk
  ·exact k1.at_.disk.lt k hk
  ·exact k1.at_.log.lt k hk
 have hs0:=h.kp.size;rw [Qo1] at k1;refine ⟨rfl,_,⟨Qa7.get h.cell h.p1,⟨l,m,cs',I8,M3,K',F',G',k1,k6,k7,λ_ h=>h,hl⟩,?_,λk hk hh=>?_,λhh=>?_,h.p2,⟨h.new.1,λk hk=>?_,h.new.2.2⟩,h.kp.trans Qa7 λi hi hh=>?_⟩,λk hk=>hf k hk,Qa7⟩
 ·obtain ⟨y,la,lc,cs2,J9c,J9d,K2,F2,G2,g1,g2,g3,g4,g5⟩:=h.ref.keep Qa7 λk h2 hh=>h.sep k hh h2;exact ⟨y,la,lc,cs2,J9c,J9d,K2,F2,G2,g1,λp hp=>by have:=g2 p hp;omega,by omega,g4,g5⟩
 ·rcases hf k hk with h6|h6
  ·exact h.sep k h6 hh
  ·have:=h.ref.lt k hh;omega
 ·rcases hf p hh with h6|h6
  ·exact h.p1 h6
  ·have:=Q3 h.cell;omega
 ·rcases hf k hk with h6|h6
  ·exact h.new.2.1 k h6
  ·omega
 ·have:=h.new.2.1 i hh;omega
theorem Jm.get (h:Jm w0 w p d s r x P o st ds lg st' ds' X4 B H1 H2) (hinv:Inv o st) (hB:B<=1000000) (k:ByteArray) (t1 t2:Int) (ht:t1<=9223372036854775807):
  Calls Tryz.prog 26 #[.pointer (some ⟨s,0,none⟩), .string k,Xo t1 t2] w (Q9e w (Ha st k t1 t2)):=by
 obtain ⟨l,m,cs,ka,kc,K,F,G,h1,h2,h3,h4,h5⟩:=h.prog;exact Qi4 h1.st (h1.st.J0b hinv hB h2) k t1 t2 ht
end
def Lm:ByteArray:=⟨#[109]⟩
def Qxf:ByteArray:=⟨#[107]⟩
def Qao:Qx:=⟨0,1,Qxf,⟨5,0,0,[97],false,0⟩⟩
def Qjo:=Jd Lm 0 ⟨1048576,none,[]⟩ X0 st0 [Qao]
theorem J69:Qjo.1=0:=by kernel_rfl
theorem Qxe:Qjo.2.2.1.Xu=X0.Xu:=by kernel_rfl
theorem J2w:Ha Qjo.2.2.1 Qxf 4 9=(none,0):=by kernel_rfl
theorem J2x:Ha Qjo.2.2.1 Qxf 5 0=(some [97],0):=by kernel_rfl
theorem Qkp (P:ByteArray) (room:Nat) (h:room<=1048576):Fit 0 P ⟨room,none,[]⟩ st0:=
 ⟨h,λ_ hp=>absurd hp List.not_mem_nil,λ_=>Nat.zero_le _,Nat.zero_le _,λ_z hz=>absurd hz List.not_mem_nil,Nat.zero_le _,Nat.zero_le _,λ_z hz=>absurd hz List.not_mem_nil⟩
theorem Qce {P:ByteArray} {o:Nat} {s:Qu} {st:J7} {lg:J2} {l:List Qx} (h:(Jd P o s st lg l).1=0) (hd:st.dead=false) (hl:l≠[]):Fk st l=0/\(Jd P o s st lg l).2.2.1={Jf o st l with n:=st.n+1}:=by
 unfold Jd at h⊢;rw [if_neg (by rw [hd];decide),if_neg (by rw [List.length_eq_zero_iff];exact hl)] at h⊢;split at h
 ·next hm=>
  rw [if_pos hm];simp only at h⊢
  split at h
  ·next hw=>
   rw [if_pos hw];exact ⟨hm,rfl⟩
  ·next hw=>exact absurd h hw
 ·next hm=>
  simp only at h
  exact absurd (by omega) hm
theorem Qib:Inv 0 Qjo.2.2.1:=by
 obtain ⟨hm,e⟩:=Qce J69 rfl (by simp);unfold Qjo;rw [e];exact (Qac (Da (by decide)) hm).Q39 _
theorem Fo (w:World) (Y4:Pow w):Calls Tryz.prog 14 #[] w λe w'=>e= .returned (.bool true)/\Kp No w w':=by
 have kc:=λ(w:World) (C:Array Value) (n c:Nat)=>Lib.run_convert_bytes_const (P:=Tryz.prog) w 42 5 C n c Tryz.underlying42 Tryz.underlying5;have Q0c:=zz Y4;go_enter Tryz.func14,Tryz.ntmps14
 go_wp2_with fail
 refine (Mz w 1048576 Y4 (by decide)).mono ?_;rintro e w1 ⟨p,d,s,r,x,H1,H2,rfl,hP⟩;have c1:w1.cell? ⟨p,1,none⟩=some (.pointer (some ⟨s,0,none⟩)):=hP.at_ zK 1;have lp:=Q3 hP.cell;have HP:=zz hP;obtain ⟨w2,hw2⟩: ∃W,W=w1.alloc (.cells #[.int .u8 97] 5 (1,1+1)):=⟨_,rfl⟩;have k2:Kp No w1 w2:=by rw [hw2];exact zK.alloc _
 have r2:Rd w2 w2.heap.size (some ⟨w1.heap.size,0,none⟩) (u8s [97]):=by rw [hw2];exact Rd.const _ _ _ _ _ rfl
 obtain ⟨w3,hw3⟩: ∃W,W=w2.alloc (.cells #[.int .i64 0, .int .i64 1, .string ⟨#[107]⟩, .int .i64 5, .int .i64 0, .int .i64 0, .slice (some ⟨w1.heap.size,0,none⟩) 1 1, .bool false, .int .i64 0] 46):=⟨_,rfl⟩;have k3:Kp No w2 w3:=by rw [hw3];exact zK.alloc _
 have r3:Rd w3 w3.heap.size (some ⟨w2.heap.size,0,none⟩) ([(⟨Qao,some ⟨w1.heap.size,0,none⟩,1⟩:Qa)].flatMap recC):=by rw [hw3];exact Rd.const _ _ _ _ _ rfl
 have J66:=Rd.kp r2 k3
 have hra: ∀W,Kp H1 w3 W->V2 W (some ⟨w2.heap.size,0,none⟩) [⟨Qao,some ⟨w1.heap.size,0,none⟩,1⟩]:=λW hW=>by
  have hlt:=hP.prog.lt;have s2:=k2.size;refine ⟨r3.Q2r hW λ_ k oo hk hz=>?_,λy hy=>?_⟩
  ·injection hk with hk;injection hk with hk;have:=hlt k hz;omega
  ·rw [List.mem_singleton] at hy;subst hy;refine ⟨J66.Q2r hW λ_ k oo hk hz=>?_,Nat.le_refl _,(show (1:Nat)<=maxLen by decide)⟩;injection hk with hk;injection hk with hk;have:=hlt k hz;omega
 have hpp:=(hP.no k2).no k3;have hput:=hpp.put (k:=0) (Da (by decide)) (Qkp _ _ (by decide)) (by decide) ((Q0c.out.keep hP.kp).keep (k2.trans_same k3)) Q0c.out.lt (by show (Zp Lm 0).size<=50;rw [U4];decide) (by decide) (some ⟨w2.heap.size,0,none⟩) 1 [⟨Qao,some ⟨w1.heap.size,0,none⟩,1⟩] hra (Nat.le_refl _) (show (1:Nat)<=1000000 by decide) (by decide) Qxe;have Qgs:Calls Tryz.prog _ #[.pointer (some ⟨s,0,none⟩), .slice (some ⟨w2.heap.size,0,none⟩) 1 1] w3 λe w'=>e= .returned (.int .i64 Qjo.1)/\ ∃Q0p,Jm w w' p d s r x Lm 0 Qjo.2.2.1 Qjo.2.1 Qjo.2.2.2 X0 ⟨1048576,none,[]⟩ st0 (0+64) Q0p H2/\Qv H1 Q0p w3/\Kp H1 w3 w':=hput;rw [J69] at Qgs;have Qp8:=zz Qgs;have HW2:=zz hw2;have HW3:=zz hw3;obtain ⟨b1,hb1⟩: ∃b,b=w1.heap.size:=⟨_,rfl⟩;obtain ⟨b2,hb2⟩: ∃b,b=w2.heap.size:=⟨_,rfl⟩;rw [<-hb1] at HW3;rw [<-hb2] at Qp8;have hb2:b2=b1+1:=by rw [hb2,hb1,hw2];simp
 clear hP k2 r2 k3 r3 J66 hra hpp hput Qgs hw2 hw3 Y4;have HB1:=zz hb1;have HB2:=zz hb2;clear hb1 hb2;go_upto_region 4 with fail
 go_wp2_with fail
 rw [<-HB1.out,<-HW2.out,<-HB2.out,<-HW3.out];refine Qp8.out.mono ?_;rintro e w4 ⟨rfl,Q0p,Qv2,_,_⟩;have c4:w4.cell? ⟨p,1,none⟩=some (.pointer (some ⟨s,0,none⟩)):=Qv2.at_ zK 1;have l4:=Q3 Qv2.cell;have hg:=Qv2.get Qib (by decide) Qxf 4 9 (by decide);rw [J2w] at hg;have HG:=zz hg;have J74:=zz Qv2;clear Qv2 hg Qp8 c1 lp;go_wp2_with fail
 refine (show Calls Tryz.prog _ _ w4 _ from HG.out).mono ?_;rintro e w5 ⟨rfl,k5⟩;have Qv3:=J74.out.no k5;have c5:w5.cell? ⟨p,1,none⟩=some (.pointer (some ⟨s,0,none⟩)):=Qv3.at_ zK 1;have l5:=Q3 Qv3.cell;have hg:=Qv3.get Qib (by decide) Qxf 5 0 (by decide);rw [J2x] at hg;have HG2:=zz hg;have J75:=zz Qv3;clear Qv3 hg HG c4 l4 k5;go_wp2_with fail
 refine (show Calls Tryz.prog _ _ w5 _ from HG2.out).mono ?_;rintro e w6 ⟨a6,c6,rfl,Bh,_,k6⟩;obtain ⟨w7,hw7⟩: ∃W,W=w6.alloc (.cells #[.int .u8 97] 5 (1,1+1)):=⟨_,rfl⟩;have k7:Kp No w6 w7:=by rw [hw7];exact zK.alloc _
 have r7:Rd w7 w7.heap.size (some ⟨w6.heap.size,0,none⟩) (u8s [97]):=by rw [hw7];exact Rd.const _ _ _ _ _ rfl
 have r6:=(Own.rd' Bh).keep k7 λ_ _ x=>x;have HS:=zz (Ag a6 (some ⟨w6.heap.size,0,none⟩) c6 1 _ _ [97] [97] w7 r6 r7 (by decide));have Q3j:=zz ((J75.out.kp.trans_same k6).trans_same k7);have Qpg:=zz hw7;clear r6 r7 k7 k6 Bh HG2 hw7 c5 l5;go_wp2_with fail
 rw [<-Qpg.out];refine HS.out.mono ?_;rintro e w8 ⟨rfl,n,rfl⟩;simp only [decide_true];have HF:=zz (Q3j.out.drewN n);clear HS Q3j;go_wp2_with fail
 go_ret
 exact ⟨rfl,HF.out⟩
end Go.Proofs.YtgnkmjeoaoongaaGreatDoor
