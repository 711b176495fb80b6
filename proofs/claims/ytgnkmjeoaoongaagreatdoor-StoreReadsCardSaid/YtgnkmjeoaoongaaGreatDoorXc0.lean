/-
  WLogPl, XSync2, WTkI, SIns, SInsert.
-/
import Derived.Test.YtgnkmjeoaoongaaGreatDoorXb5
import Derived.Test.YtgnkmjeoaoongaaGreatDoorXb6
import Derived.Lib.AppendZerosOnto
import Derived.Lib.Overlaps
set_option maxRecDepth 100000
set_option maxHeartbeats 4000000
namespace Go.Proofs.YtgnkmjeoaoongaaGreatDoor
open Go.RowKit Go.Mer
def Q7k (w:World) (r x:Nat) (P:ByteArray) (F G:Nat->Prop) (q:Int×Qu×J2) (e:Ending) (w':World):Prop:=e= .returned (.int .i64 q.1)/\Y2 w r x P F G q.2.1 q.2.2 w'
theorem Q1v (w:World) (r x:Nat) (P:ByteArray) (s:Qu) (st:J2) (F G:Nat->Prop) (h:N9 w r x P s st F G) (hne:st.Qk=[]->st.Qn.length<=st.synced) (hsl:st.synced<=st.Qn.length) (hlen:st.Qn.length<=1000000) (hz: ∀z∈st.Qk,z.1<1000000) (hP:P.size<=50):
  Calls Tryz.prog 123 #[.pointer (some ⟨x,0,none⟩)] w (Q7k w r x P F G (Uq P s st)):=by
 obtain ⟨sv,ev,E,hC,hE,Bd,Ub⟩:=h.log;obtain ⟨ea,ec,rfl,Qjl,_⟩:=hC.Qn.rd;have Q07: ∀W,Kp F w W->Y1 W x r P sv (.slice ea E.length ec) (st.Qk.map (·.1)) E (st.synced+1) st.dead:=λW hW=>hC.keep hW (λk hk hf=>h.sep k hf (Bd k hk));have hll:=Q3 hC.cell;have c0: ∀W,Kp F w W->W.cell? ⟨x,0,none⟩=some (.pointer (some ⟨r,0,none⟩)):=λW hW=>(Q07 W hW).cells.1 W zK;have c1: ∀W,Kp F w W->W.cell? ⟨x,1,none⟩=some (.string P):=λW hW=>(Q07 W hW).cells.2.1 W zK;have c2: ∀W,Kp F w W->W.cell? ⟨x,2,none⟩=some (.slice ea E.length ec):=λW hW=>(Q07 W hW).cells.2.2.1 W zK;have c3: ∀W,Kp F w W->W.cell? ⟨x,3,none⟩=some sv:=λW hW=>(Q07 W hW).cells.2.2.2.1 W zK;have c4: ∀W,Kp F w W->W.cell? ⟨x,4,none⟩=some (.int .i64 ((st.synced+1:Nat):Int)):=λW hW=>(Q07 W hW).cells.2.2.2.2.1 W zK;have c5: ∀W,Kp F w W->W.cell? ⟨x,5,none⟩=some (.bool st.dead):=λW hW=>(Q07 W hW).cells.2.2.2.2.2.1 W zK;have C6:=c5 w zK;obtain ⟨n,hn⟩: ∃n,n=E.length:=⟨_,rfl⟩;have hnl:st.Qn.length=n:=by rw [hE,List.length_map,hn]
 rw [<-hn] at c2;obtain ⟨y,hy⟩: ∃y,y=st.synced+1:=⟨_,rfl⟩;rw [<-hy] at c4;obtain ⟨n1,hn1⟩: ∃n1,n1=n+1:=⟨_,rfl⟩;have HW1:=zz (show wrap64 ((n:Int)+1)=(n1:Int) by rw [IntWalk.wrap64_in _ (by omega),hn1];push_cast;rfl);have H:=zz h;have HC:=zz hC;have HE:=zz hE;have Qsa:=zz Bd;have HN:=zz hn;have Qzc:=zz hnl;have HY:=zz hy;have Qjx:=zz hn1;have Ja6:=zz hsl;have J6k:=zz Q07;cases hd:st.dead with
 |true=>
  have HQ:=zz (show Uq P s st=(9,s,st) by unfold Uq;rw [if_pos hd]);rw [hd] at C6;clear h hC hE Bd Ub hn hnl hy hn1 hsl Q07 hd c5 hne hz Qjl;go_enter Tryz.func123,Tryz.ntmps123
  go_wp2_with fail
  go_ret
  rw [HQ.out];exact ⟨rfl,Y2.here H.out zK⟩
 |false=>
  have hq:Uq P s st=((J0 P s st).1,(J0 P s st).2.1,{(J0 P s st).2.2 with dead:=decide ((J0 P s st).1≠0)}):=by
   unfold Uq;rw [if_neg (by rw [hd];decide)]
  by_cases hyn:y=n1
  ·have hsy:J0 P s st=(0,s,st):=by
    unfold J0;rw [if_neg (by omega)]
   have HQ:=zz (show Uq P s st=(0,s,st) by
    rw [hq,hsy]
    have:({st with dead:=decide ((0:Int)≠0)}:J2)=st:=by
     have h0:decide ((0:Int)≠0)=false:=by decide
     rw [h0,<-hd]
    simp only
    rw [this])
   have e1:((y:Int)==(n1:Int))=true:=by rw [beq_iff_eq,hyn]
   rw [hd] at C6;clear h hC hE Bd Ub hn hnl hy hn1 hsl Q07 hd c5 hne hz Qjl hsy hq hyn;go_enter Tryz.func123,Tryz.ntmps123
   have hw1:=HW1.out;go_upto_region 3 with fail
   refine zD F [0,0,0,0,0,0,0,0,1,0,0] [0,1,2,3,4,5,6,7,8,9,10] ?_;repeat (first|refine zA ?_|refine zB ?_|refine zC ?_)
   refine Q6 (λnq=>?_);go_wp2_with fail
   go_ret
   rw [HQ.out];exact ⟨rfl,Y2.here H.out ((Kp.refl No w).drewN nq)⟩
  ·have hlt:st.synced<st.Qn.length:=by omega
   rcases List.eq_nil_or_concat st.Qk with hsg|⟨S1,z,hsg⟩
   ·have:=hne hsg;omega
   ·rw [List.concat_eq_append] at hsg;have hC2:=hC;rw [hsg,List.map_append,List.map_cons,List.map_nil] at hC2;obtain ⟨sg,L5,sn,sc,rfl,hsn,Qlg,Q8h,G7⟩:=hC2.Oi;obtain ⟨m2,hm2⟩: ∃m2,m2=(S1.map (·.1)).length:=⟨_,rfl⟩;rw [<-hm2] at hsn G7;have hms:m2<sn:=by omega
    have hw3:(sn:Int)-1=(m2:Int):=by omega
    have Q4z:=hz z (by rw [hsg];simp);have J1x: ¬F sg:=λhf=>h.sep sg hf (Bd sg (.inr (.inl rfl)));have hsc: ∀W,Kp F w W->W.cell? ⟨sg,L5+m2,none⟩=some (.int .i64 (z.1:Int)):=λW hW=>(hW.cell (p:=⟨sg,L5+m2,none⟩) Q8h J1x).trans (G7 w zK)
    have Q3w:=zz (show J0 P s st=((L8 s (Eh P z.1)).1,(L8 s (Eh P z.1)).2,if (L8 s (Eh P z.1)).1=0 then {st with synced:=st.Qn.length} else st) by
     unfold J0;rw [if_pos hlt,hsg,List.getLast?_append];rfl)
    obtain ⟨zn,hzn⟩: ∃zn,zn=z.1:=⟨_,rfl⟩;rw [<-hzn] at hsc Q3w Q4z;have Q04:=zz (λW=>Gs P (by omega) zn Q4z W);have e1:((y:Int)==(n1:Int))=false:=by rw [beq_eq_false_iff_ne];omega
    have HQ:=zz hq;have HD:=zz hd;rw [hd] at C6;clear h hC hC2 hE Bd Ub hn hnl hy hn1 hsl Q07 hd c5 hne hz Qjl hq hyn hsg hm2 hsn Q4z G7 hzn hlt;go_enter Tryz.func123,Tryz.ntmps123
    have hw1:=HW1.out;go_upto_region 3 with fail
    refine zD F [0,0,0,0,0,0,0,0,1,0,0] [0,1,2,3,4,5,6,7,8,9,10] ?_;repeat (first|refine zA ?_|refine zB ?_|refine zC ?_)
    refine Q6 (λnq=>?_);clear hw1;go_upto_region 5 with fail
    obtain ⟨w2,hw2⟩: ∃W,W=w.drewN nq:=⟨_,rfl⟩;have hk2:Kp No w w2:=by rw [hw2];exact (Kp.refl No w).drewN nq
    rw [<-hw2];clear hw2;have Qul:w2.cell? ⟨x,3,none⟩=some (.slice (some ⟨sg,L5,none⟩) sn sc):=c3 w2 (Kp.of_no hk2);refine Yq (Kp F w) [0,0,0,0,0,0,0,0,0,0,0,0,0,0,0,0,1,0,0,0,2,2,0] [0,1,2,3,4,5,6,7,8,9,10,11,12,13,14,15,16,17,18,19,20,21,22] (by kernel_rfl) (by kernel_rfl) (λ_ n h=>h.drewN n) (Kp.of_no hk2) ?_;repeat (first|refine zA ?_|refine zB ?_|refine zC ?_)
    have J6l:=zz c3;clear c0 c1 c2 c3 c4 hsc Qul;refine Q4 rfl rfl (λn2=>?_);have hc:=Q04.out (w2.drewN n2);go_wp2_with fail
    with_reducible refine hc.mono ?_
    rintro e w3 ⟨rfl,hk3⟩;clear hc;go_wp2_with fail
    have Ql6:Kp No w w3:=hk2.trans_same hk3.of_drewN;refine ⟨Kp.of_no Ql6,?_⟩;refine Q4 rfl rfl (λn3=>?_);have hc:=Qch (w3.drewN n3) r s F (H.out.disk.Q5 (Ql6.drewN n3)) (Eh P zn);obtain ⟨q,hqe⟩: ∃q,q=L8 s (Eh P zn):=⟨_,rfl⟩;obtain ⟨kn,hkn⟩:=Qid (s:=s) (x:=Eh P zn);have hsy:=Q3w.out;rw [<-hqe] at hc hkn hsy;have J3t:=zz hsy;have Dn:=zz hkn;have Zj:=zz Ql6;clear hqe hkn hsy Q3w hk3 hk2 Ql6;go_wp2_with fail
    with_reducible refine hc.mono ?_
    rintro e w4 ⟨rfl,F4,hD4,Qbw,hK4⟩;clear hc;have Qqp:Kp F w3 w4:=hK4.of_drewN;have J59:N9 w4 r x P q.2 st F4 G:=(H.out.no Zj.out).Av hD4 Qbw Qqp;have Qsh:=zz J59;have Qyx:=zz (show Qv F F4 w from λk hk=>(Qbw k hk).imp id λh=>Nat.le_trans Zj.out.size h);have Ox:=zz (show Kp F w w4 from (Kp.of_no Zj.out).trans_same Qqp);clear hD4 Qbw hK4 Qqp J59;rw [Dn.out];go_wp2_with fail
    refine ⟨Ox.out,?_⟩;repeat (first|refine zA ?_|refine zB ?_|refine zC ?_)
    refine Q6 (λnq=>?_);obtain ⟨w5,hw5⟩: ∃W,W=w4.drewN nq:=⟨_,rfl⟩;have hk5:Kp No w4 w5:=by rw [hw5];exact (Kp.refl No w4).drewN nq
    rw [<-hw5];have Qxy:=zz (Qsh.out.no hk5);have Ga:=zz (Ox.out.trans_no hk5);clear hw5;by_cases hkz:kn=0
    ·subst hkz;have Lk:=J6k.out w5 Ga.out;obtain ⟨_,_,f2,_,f4,_,J4p⟩:=Lk.cells;have J7x:=f2 w5 zK;have Jaj:=f4 w5 zK;have Jak:=J4p w5 zK 4;rw [<-HN.out] at J7x;have hl5:=Q3 Lk.cell;have hcl:=Qh Lk.cell 4 (.int .i64 ((n+1:Nat):Int));have Ql0:Yk w5 w5 x r P (.slice (some ⟨sg,L5,none⟩) sn sc) (.slice ea E.length ec) (st.Qk.map (·.1)) E (st.synced+1) st.dead G:=⟨Lk,λk hk=> .inl (Qsa.out k hk),Kp.refl _ _⟩;have Qg0:=Ql0.flag (Zt:=n+1) (Uj:=st.dead) (W':=w5.setCell ⟨x,4,none⟩ (.int .i64 ((n+1:Nat):Int))) ((Kp.refl (One x) _).setCell (p:=⟨x,4,none⟩) (.inl rfl) _) (by simpa using hcl);obtain ⟨G2,hL2,hG2,hK2⟩:=Qg0.stop rfl;have J0w:=Qxy.out.Aw hL2 hG2 hK2
     have Zv:=zz (show Q7k w r x P F G (Uq P s st) (.returned (.int .i64 0)) (w5.setCell ⟨x,4,none⟩ (.int .i64 ((n+1:Nat):Int))) from by
      have h0:q.1=0:=Dn.out;unfold Q7k;rw [HQ.out,J3t.out];simp only
      rw [h0,if_pos rfl];refine ⟨rfl,F4,G2,?_,Qyx.out,λk hk=>(hG2 k hk).imp id λh=>Nat.le_trans Ga.out.size h,?_⟩
      ·rw [<-HE.out] at J0w
       have hst:({{st with synced:=st.Qn.length} with dead:=decide ((0:Int)≠0)}:J2)=⟨st.Qn,st.Qk,n,st.dead⟩:=by
        rw [Qzc.out,HD.out];rfl
       rw [hst];exact J0w
      ·exact (Ga.out.mono (T:=Xp F G) λ_ _ x=> .inl x).trans hK2 λi _ x=> .inr x)
     have Qw9:((n1:Nat):Int)=((n+1:Nat):Int):=by rw [Qjx.out]
     rw [<-Qw9] at Zv;clear Lk hcl Ql0 Qg0 hL2 hG2 hK2 J0w f2 f4 J4p Qw9;have hw1:=HW1.out;go_wp2_with fail
     go_ret
     exact Zv.out
    ·have e3:((kn:Int)==(0:Int))=false:=by rw [beq_eq_false_iff_ne];omega
     have e4:((kn:Int) !=(0:Int))=true:=by rw [bne,e3];rfl
     obtain ⟨⟨z5,Qom⟩,hf5,hl5,hfin⟩:=Qxy.out.dead true
     have Zv:=zz (show Q7k w r x P F G (Uq P s st) (.returned (.int .i64 (kn:Int))) (w5.setCell ⟨x,5,none⟩ (.bool true)) from by
      unfold Q7k;rw [HQ.out,J3t.out];simp only
      rw [Dn.out,if_neg (show ¬((kn:Int)=0) by omega)];refine ⟨rfl,?_⟩;have J1c:decide ((kn:Int)≠0)=true:=decide_eq_true (by omega);rw [J1c];obtain ⟨F6,G6,h1,h2,h3,h4⟩:=hfin;refine ⟨F6,G6,h1,Qyx.out.trans (λk hk=>h2 k hk) Ga.out.size,λk hk=>(h3 k hk).imp id λh=>Nat.le_trans Ga.out.size h,?_⟩;refine (Ga.out.mono (T:=Xp F G) λ_ _ x=> .inl x).trans h4 λi hi hb=>?_;rcases hb with hb|hb
      ·rcases Qyx.out i hb with h5|h5
       ·exact .inl h5
       ·omega
      ·exact .inr hb)
     clear hfin;go_wp2_with fail
     go_ret
     exact Zv.out
end Go.Proofs.YtgnkmjeoaoongaaGreatDoor
namespace Go.Mer
open Go Go.RowKit
section
variable {P:Program}
theorem Ez (w:World) (dT sT ty elem:TypeId) (sz g off dLen dCap:Nat) (a:Addr) (sLen sCap:Nat) (xs:List Value) (hu:P.underlying dT=some (.slice elem)) (hs:(P.info? elem).map (·.size)=some sz) (hn:xs.length=Nat.min sLen dLen*sz)
  (hsrc: ∀j v,xs[j]?=some v->w.cell? (a.add j)=some v) {cur:Array Value} {t:TypeId} (hg:w.heap[g]?=some (.cells cur t (0,0))) (hfit:off+xs.length<=cur.size) (h1: ∀v∈xs,v.oneCell'=true):
  (Builtin.copy_ #[dT,sT] ty #[.slice (some ⟨g,off,none⟩) dLen dCap, .slice (some a) sLen sCap]).run P w= .ok (goInt (Nat.min sLen dLen)) (w.setCells g off xs):=by
 have hl:=run_loadCells_list (P:=P) w a xs hsrc
 have hst:=run_storeCells_cells (P:=P) g off xs 0 w (by
  intro j hj;rw [Nat.add_zero,Q0 hg];simp;omega) (by intro j _;exact Qc hg _) h1
 cases hq:P.info? elem with
 |none=>simp [hq] at hs
 |some i=>
  have hi:i.size=sz:=by simpa [hq] using hs
  simp only [Nat.add_zero] at hst;simp [Builtin.copy_,run_underlying hu,Builtin.lenOf,Builtin.firstCells,sizeOf,typeInfo,hq,hi,<-hn,hl,hst]
theorem wpList_copy_run {ops:Array Oper} {rest:List Oper} {o:Oper} {a:Act} {w:World} {Q:Exit->Act->World->Prop} {w':World} {s x:Operand} {t t':TypeId} {v xv v':Value} (hgd:o.guard=none)
  (ho:o.op= .call {callee:= .builtin .copy,args:= #[s,x],argTypes:= #[t,t']}) (hs:a.eval s=v) (hx:a.eval x=xv)
  (hrun:(Builtin.copy_ #[t,t'] o.type #[v,xv]).run P w= .ok v' w') (h:wpList P ops Q rest (a.put o.dst v') w'):wpList P ops Q (o::rest) a w:=
 wpList_plain hgd λ_ hK=>by
  unfold Oper.wp execOp;simp only [ho,resolve,invoke,builtin,Sem.run_bind,Sem.run_pure,Result.andThen_ok,List.map_toArray,List.map_cons,List.map_nil,hs,hx,hrun];exact hK _ _ h
end
theorem Vs (g n:Nat): ∀(l:List Value) (o:Nat) (w:World),(w.drewN n).setCells g o l=(w.setCells g o l).drewN n
 |[],_,_=>rfl
 |v::l,o,w=>by
  rw [World.setCells,World.setCells];exact Vs g n l (o+1) (w.setCell ⟨g,o,none⟩ v)
theorem Um (g:Nat): ∀(l:List Value) (o:Nat) (a:World),Kp (One g) a (a.setCells g o l)
 |[],_,_=>Kp.refl _ _
 |u::l,o,a=>by
  have h1:Kp (One g) a (a.setCell ⟨g,o,none⟩ u):=(Kp.refl (One g) a).setCell (p:=⟨g,o,none⟩) (.inl rfl) u;have h2:=h1.trans_same (Um g l (o+1) (a.setCell ⟨g,o,none⟩ u));simpa [World.setCells] using h2
theorem Fp {w:World} {g off:Nat} {cur:Array Value} {e:TypeId} (hg:w.heap[g]?=some (.cells cur e (0,0))) {X Y Z ys:List Value} (hc:cur.toList=X++(Y++Z)) (hX:off=X.length) (hY:ys.length=Y.length):
  ∃cur',(w.setCells g off ys).heap[g]?=some (.cells cur' e (0,0))/\cur'.toList=X++(ys++Z)/\cur'.size=cur.size:=by
 have hsz:cur.size=X.length+(Y.length+Z.length):=by
  have:=congrArg List.length hc;simpa using this
 obtain ⟨cur',h1,h2,h3⟩:=Ec g e ys w off cur hg (by omega);refine ⟨cur',h1,?_,h2⟩;rw [h3,hc,hX,List.take_left' rfl,hY];have:X++(Y++Z)=(X++Y)++Z:=by rw [List.append_assoc]
 rw [this,List.drop_left' (by rw [List.length_append]),List.append_assoc]
theorem Q8m {w:World} {e:TypeId} {sz g off n cap i:Nat} {xs news:List Value} (h:Own w e sz (.slice (some ⟨g,off,none⟩) n cap) n xs) (hi:i<=n) (hc:n+1<=cap) (hn:news.length=sz):
  ∃Nc,(w.setCells g (off+(i+1)*sz) (xs.drop (i*sz))).heap[g]?=some (.cells Nc e (0,0))/\off+(n+1)*sz<=Nc.size/\
  Own ((w.setCells g (off+(i+1)*sz) (xs.drop (i*sz))).setCells g (off+i*sz) news) e sz (.slice (some ⟨g,off,none⟩) (n+1) cap) (n+1) (xs.take (i*sz)++(news++xs.drop (i*sz))):=by
 obtain ⟨hl,a,cap',hv,h1,h2,h3,h4⟩:=h;injection hv with hv1 hv2 hv3;subst hv3;obtain ⟨g',off',cur,had,hg,hfit,hx⟩:=h4 ⟨g,off,none⟩ hv1.symm;injection had with e1 e2;subst e1;subst e2;have m1:i*sz<=n*sz:=Nat.mul_le_mul_right _ hi;have m2:(n+1)*sz<=cap*sz:=Nat.mul_le_mul_right _ hc;have m3:(n+1)*sz=n*sz+sz:=by rw [Nat.add_mul,Nat.one_mul]
 have m4:(i+1)*sz=i*sz+sz:=by rw [Nat.add_mul,Nat.one_mul]
 have hcl:cur.toList.length=cur.size:=Array.length_toList;obtain ⟨A,hA⟩: ∃A,A=xs.take (i*sz):=⟨_,rfl⟩;obtain ⟨B,hB⟩: ∃B,B=xs.drop (i*sz):=⟨_,rfl⟩;have hAB:xs=A++B:=by rw [hA,hB,List.take_append_drop]
 have hAl:A.length=i*sz:=by rw [hA,List.length_take];omega
 have hBl:B.length=n*sz-i*sz:=by rw [hB,List.length_drop,hl]
 obtain ⟨X,hX⟩: ∃X,X=cur.toList.take off:=⟨_,rfl⟩;have Qg2:X.length=off:=by rw [hX,List.length_take];omega
 obtain ⟨Z,hZ⟩: ∃Z,Z=(cur.toList.drop off).drop (n*sz):=⟨_,rfl⟩;have Jap:Z.length=cur.size-off-n*sz:=by rw [hZ,List.length_drop,List.length_drop,hcl]
 have hcur:cur.toList=X++(A++(B++Z)):=by
  rw [<-List.append_assoc A,<-hAB,hX,hZ,<-hx,List.take_append_drop,List.take_append_drop]
 rw [<-hA,<-hB];obtain ⟨N,hN⟩: ∃N,N=(B++Z).take sz:=⟨_,rfl⟩;obtain ⟨O,hO⟩: ∃O,O=((B++Z).drop sz).take B.length:=⟨_,rfl⟩;obtain ⟨R,hR⟩: ∃R,R=((B++Z).drop sz).drop B.length:=⟨_,rfl⟩;have hNl:N.length=sz:=by rw [hN,List.length_take,List.length_append];omega
 have J0t:O.length=B.length:=by rw [hO,List.length_take,List.length_drop,List.length_append];omega
 have J83:B++Z=N++(O++R):=by rw [hN,hO,hR,List.take_append_drop,List.take_append_drop]
 have hc1:cur.toList=(X++(A++N))++(O++R):=by rw [hcur,J83];simp [List.append_assoc]
 obtain ⟨Nc,g1,l1,s1⟩:=Fp (off:=off+(i+1)*sz) (ys:=B) hg hc1 (by rw [List.length_append,List.length_append,Qg2,hAl,hNl];omega) J0t.symm;have hc2:Nc.toList=(X++A)++(N++(B++R)):=by rw [l1];simp [List.append_assoc]
 obtain ⟨Qfi,g2,l2,s2⟩:=Fp (off:=off+i*sz) (ys:=news) g1 hc2 (by rw [List.length_append,Qg2,hAl]) (by rw [hn,hNl]);refine ⟨Nc,g1,by omega,by simp only [List.length_append,hAl,hBl,hn];omega,some ⟨g,off,none⟩,cap,rfl,hc,h2,λh=>(by cases h),λad had=>?_⟩;injection had with had;subst had;refine ⟨g,off,Qfi,rfl,g2,by omega,?_⟩;have e3:Qfi.toList=X++((A++(news++B))++R):=by rw [l2];simp [List.append_assoc]
 rw [e3,List.drop_left' Qg2,List.take_left' (by simp only [List.length_append,hAl,hBl,hn];omega)]
theorem Qcb {w:World} {e:TypeId} {sz n cap i:Nat} {A B Z news:List Value} {row:Array Value} (hr:row.toList=A++Z) (hA:A.length=i*sz) (hB:B.length=(n-i)*sz) (hi:i<=n) (hn:news.length=sz) (hc:n+1<=cap) (hm:cap<=maxLen) (hz:cap*sz<=row.size):
  ∃Nc,((w.alloc (.cells row e)).setCells w.heap.size (i*sz) news).heap[w.heap.size]?=some (.cells Nc e (0,0))/\(n+1)*sz<=Nc.size/\
  Own (((w.alloc (.cells row e)).setCells w.heap.size (i*sz) news).setCells w.heap.size ((i+1)*sz) B) e sz (.slice (some ⟨w.heap.size,0,none⟩) (n+1) cap) (n+1) (A++(news++B)):=by
 have hrl:row.size=A.length+Z.length:=by
  have:=congrArg List.length hr;simpa using this
 have m2:(n+1)*sz<=cap*sz:=Nat.mul_le_mul_right _ hc;have m3:(n+1)*sz=n*sz+sz:=by rw [Nat.add_mul,Nat.one_mul]
 have m4:(i+1)*sz=i*sz+sz:=by rw [Nat.add_mul,Nat.one_mul]
 have m5:i*sz+(n-i)*sz=n*sz:=by rw [<-Nat.add_mul];congr 1;omega
 obtain ⟨N,hN⟩: ∃N,N=Z.take sz:=⟨_,rfl⟩;obtain ⟨O,hO⟩: ∃O,O=(Z.drop sz).take B.length:=⟨_,rfl⟩;obtain ⟨R,hR⟩: ∃R,R=(Z.drop sz).drop B.length:=⟨_,rfl⟩;have hNl:N.length=sz:=by rw [hN,List.length_take];omega
 have J0t:O.length=B.length:=by rw [hO,List.length_take,List.length_drop];omega
 have hZ:Z=N++(O++R):=by rw [hN,hO,hR,List.take_append_drop,List.take_append_drop]
 rw [hZ] at hr;obtain ⟨Nc,g1,l1,s1⟩:=Fp (w:=w.alloc (.cells row e)) (g:=w.heap.size) (off:=i*sz) (ys:=news) (heap_alloc_new w _) hr hA.symm (by rw [hn,hNl]);have hc2:Nc.toList=(A++news)++(O++R):=by rw [l1];simp [List.append_assoc]
 obtain ⟨Qfi,g2,l2,s2⟩:=Fp (off:=(i+1)*sz) (ys:=B) g1 hc2 (by rw [List.length_append,hA,hn];omega) J0t.symm;refine ⟨Nc,g1,by omega,by simp only [List.length_append,hA,hB,hn];omega,some ⟨w.heap.size,0,none⟩,cap,rfl,hc,hm,λh=>(by cases h),λad had=>?_⟩;injection had with had;subst had;refine ⟨w.heap.size,0,Qfi,rfl,g2,by omega,?_⟩;have e3:Qfi.toList=(A++(news++B))++R:=by rw [l2];simp [List.append_assoc]
 rw [List.drop_zero,e3,List.take_left' (by simp only [List.length_append,hA,hB,hn];omega)]
end Go.Mer
namespace Go.Proofs.YtgnkmjeoaoongaaGreatDoor
open Go.RowKit Go.Mer
def Qpj (w:World) (a:Option Addr) (n cap i:Nat) (xs news:List Value) (e:Ending) (w':World):Prop:=
 ∃a' c',e= .returned (.slice a' (n+1) c')/\Own w' 44 6 (.slice a' (n+1) c') (n+1) (xs.take (i*6)++(news++xs.drop (i*6)))/\Kp (λk=>(Value.slice a n cap).ownBlock=some k) w w'/\
  ((Value.slice a' (n+1) c').ownBlock=(Value.slice a n cap).ownBlock\/ ∃g,(Value.slice a' (n+1) c').ownBlock=some g/\w.heap.size<=g)
theorem E2 (n:Nat) (h:n<=1000000):wrap64 ((n:Int)+1)=((n+1:Nat):Int):=by
 rw [IntWalk.wrap64_in _ (by omega)];push_cast
 rfl
theorem J9b {k n i:Nat} (h:k=n+1-i) (hn:n<=1000000):k*64<=281474976710656:=by omega
theorem Qlq {k n i:Nat} (h:i+k=n+1):(k:Int)=(n:Int)+1-(i:Int):=by omega
theorem Q3b:(Tryz.prog.info? 44).map (·.size)=some 6:=by kernel_rfl
theorem Q7h (w:World) (a:Option Addr) (n cap i:Nat) (xs:List Value) (hO:Own w 44 6 (.slice a n cap) n xs) (hi:i<=n) (hn:n<=1000000) (h1: ∀u∈xs,u.oneCell'=true)
  (vb:Nat) (x:Qd) (t:TypeId) (hvb:w.heap[vb]?=some (.cells (Qg x).toArray t (0,0))) (hne:(Value.slice a n cap).ownBlock≠some vb):
  Calls Tryz.prog 192 #[.slice a n cap, .int .i64 (i:Int), .slice (some ⟨vb,0,none⟩) 1 1] w (Qpj w a n cap i xs (Qg x)):=by
 obtain ⟨hl,a0,cap0,ev,hnc,hcm,hnil,hblk⟩:=id hO;injection ev with ev1 J7v J7w;clear J7v;subst ev1;subst J7w
 have hsrc:Mer.Src w 6 (.slice (some ⟨vb,0,none⟩) 1 1) 1 (Qg x):=by
  have:=Ew (f:=Qg) J8 hvb (x:=x) rfl;simpa using this
 have hcm2:cap<=9223372036854775807:=by unfold maxLen at hcm;omega
 by_cases hin:i=n
 ·subst hin;obtain ⟨i0,hi0,hz⟩:=Option.map_eq_some_iff.1 Vo;injection hz with hz0 hz;injection hz with hz1 hz2;obtain ⟨z,hz,hz3⟩:=Option.map_eq_some_iff.1 hz0;obtain ⟨v',w',hrun,ho,hkp,hb⟩:=Jk (P:=Tryz.prog) 68 68 68 44 i0 z 6 64 Tryz.underlying68 ⟨_,Tryz.underlying68⟩ hi0 hz hz1 hz2 hz3 _ i xs hO _ 1 (Qg x) hsrc (Yg x) (by unfold maxLen;omega) (by omega);obtain ⟨_,a',c',rfl,_⟩:=id ho;have HX:=zz hrun
  have Zv:=zz (show Qpj w a i cap i xs (Qg x) (.returned (.slice a' (i+1) c')) w' from ⟨a',c',rfl,by
   rw [List.take_of_length_le (by omega),List.drop_of_length_le (by omega),List.append_nil];exact ho,hkp,hb⟩)
  clear hrun ho hkp hb hO hvb hsrc hi0 hz hz0 hz1 hz2 hz3 hl hblk hnil;by_cases hci:cap=i
  ·subst hci;go_enter Tryz.func192,Tryz.ntmps192
   go_wp2_with (at_builtin;refine wpList_append_run rfl rfl rfl rfl HX.out ?_)
   go_ret
   exact Zv.out
  ·have J8h: ¬((cap:Int)=(i:Int)):=by omega
   go_enter Tryz.func192,Tryz.ntmps192
   go_wp2_with (at_builtin;refine wpList_append_run rfl rfl rfl rfl HX.out ?_)
   go_ret
   exact Zv.out
 ·have hin2:i<n:=by omega
  cases a with
  |none=>have:=hnil rfl;omega
  |some ad=>
  obtain ⟨g,off,cur,rfl,hg,hfit,hcur⟩:=hblk ad rfl;have hgv:g≠vb:=λe=>hne (by rw [e];rfl);have hz2:((i:Int)==(n:Int))=false:=by rw [beq_eq_false_iff_ne];omega
  have hci: ¬cap=i:=by omega
  have hcl:cur.toList.length=cur.size:=Array.length_toList
  have hcell: ∀j v,xs[j]?=some v->w.cell? ⟨g,off+j,none⟩=some v:=λj v hj=>by
   rw [Q0 hg];rw [<-hcur,List.getElem?_take] at hj;split at hj
   ·rw [List.getElem?_drop] at hj;simpa using hj
   ·cases hj
  have Q71: ∀j v,(Qg x)[j]?=some v->w.cell? ⟨vb,0+j,none⟩=some v:=λj v hj=>by
   rw [Q0 hvb];simpa using hj
  have hdl:(xs.drop (i*6)).length=(n-i)*6:=by rw [List.length_drop,hl];omega
  by_cases hroom:n+1<=cap
  ·-- in place
   obtain ⟨Nc,g1,s1,ho2⟩:=Q8m (news:=Qg x) hO hi hroom rfl;have hk1:=Um g (xs.drop (i*6)) (off+(i+1)*6) w;have hk2:=Um g (Qg x) (off+i*6) (w.setCells g (off+(i+1)*6) (xs.drop (i*6)));have hmn:Nat.min (n+1-i) (n-i)=n-i:=by simp only [Nat.min_def];split<;>omega
   have hcpA: ∀ty dc sc m,(Builtin.copy_ #[68,68] ty #[.slice (some ⟨g,off+(i+1)*6,none⟩) (n-i) dc, .slice (some ⟨g,off+i*6,none⟩) (n+1-i) sc]).run Tryz.prog (w.drewN m)= .ok (goInt ((n-i:Nat):Int)) ((w.setCells g (off+(i+1)*6) (xs.drop (i*6))).drewN m):=λty dc sc m=>by
    have:=Ez (P:=Tryz.prog) (w.drewN m) 68 68 ty 44 6 g (off+(i+1)*6) (n-i) dc ⟨g,off+i*6,none⟩ (n+1-i) sc (xs.drop (i*6)) Tryz.underlying68 Q3b (by rw [hdl,hmn])
     (λj v hj=>by rw [Jq,Nat.add_assoc];rw [List.getElem?_drop] at hj;exact hcell _ v hj) (cur:=cur) (t:=44) hg (by rw [hdl];omega) (λv hv=>h1 v (List.mem_of_mem_drop hv))
    rw [this,hmn,Vs]
   have hov: ∀lb cb,(callFunc 236 #[.slice (some ⟨vb,0,none⟩) 1 1, .slice (some ⟨g,off+(i+1)*6,none⟩) lb cb]).run Tryz.prog w= .ok (.value (.bool false)) w:=λlb cb=>by
    rw [run_callFunc_extern Tryz.func236 (by kernel_rfl) (by kernel_rfl) (by kernel_rfl) (e:=Extern.SlicesOverlaps.overlaps #[68,68] #[4]) (by kernel_rfl),
     Lib.run_overlaps_apart w 68 4 44 Tryz.underlying68 6 Tryz.sizeOf44 ⟨vb,0,none⟩ ⟨g,off+(i+1)*6,none⟩ 1 1 lb cb (λe=>hgv e.symm) t 44 6 cur.size (by simp [World.shape?,hvb];rfl) (by simp [World.shape?,hg]) (by omega) (Qc hvb 0) (Qc hvb 6)]
    rfl
   obtain ⟨W0,hW0⟩: ∃W0,W0=w.setCells g (off+(i+1)*6) (xs.drop (i*6)):=⟨_,rfl⟩;rw [<-hW0] at hk1 hk2 g1 ho2;simp only [<-hW0] at hcpA;clear hW0
   have hcpB: ∀ty dc m,(Builtin.copy_ #[68,68] ty #[.slice (some ⟨g,off+i*6,none⟩) (n+1-i) dc, .slice (some ⟨vb,0,none⟩) 1 1]).run Tryz.prog (W0.drewN m)= .ok (goInt ((1:Nat):Int)) ((W0.setCells g (off+i*6) (Qg x)).drewN m):=λty dc m=>by
    have J16:1<=n+1-i:=Nat.sub_pos_of_lt (Nat.lt_succ_of_le hi);have Qw7:Nat.min 1 (n+1-i)=1:=Nat.min_eq_left J16
    have:=Ez (P:=Tryz.prog) (W0.drewN m) 68 68 ty 44 6 g (off+i*6) (n+1-i) dc ⟨vb,0,none⟩ 1 1 (Qg x) Tryz.underlying68 Q3b (by rw [Qw7];rfl)
     (λj v hj=>by rw [Jq,World.cell?_drewN,hk1.cell (p:=⟨vb,0+j,none⟩) (Q3 hvb) (λe=>hgv (show vb=g from e).symm)];exact Q71 j v hj) (cur:=Nc) (t:=44) g1 (by rw [J8];clear hcell Q71 h1 hcl hcur hfit hdl g1 hmn;omega) (Yg x)
    rw [this,Qw7,Vs]
   have hw1:=E2 n hn;have hw2:=E2 i (Nat.le_trans hi hn);have d1:decide ((cap:Int)<((n+1:Nat):Int))=false:=decide_eq_false λh=>Nat.not_lt.2 hroom (Int.ofNat_lt.1 h);have hb1:(i:Int)<=(n:Int):=Int.ofNat_le.2 hi;have hb3:(i:Int)<=(n:Int)+1:=by have:=Int.ofNat_le.2 hi;exact Int.le_trans this (Int.le_of_lt (Int.lt_succ _))
   have J3e:=zz hcpA;have J3r:=zz hov;have Qyu:=zz hcpB;have HL:=zz (And.intro hl (And.intro hdl hmn));have HG:=zz (And.intro g1 (And.intro s1 ho2));have HK:=zz (And.intro hk1 hk2);have HV:=zz (And.intro hvb hgv);have H1:=zz h1;have J3c:=zz hci;clear hcpA hcpB hov hl hdl hmn g1 s1 ho2 hk1 hk2 hvb hgv h1 hO hne hnil hblk hg hfit hcur hcell Q71 hsrc hcl hci;go_enter Tryz.func192,Tryz.ntmps192
   go_upto_region 15 with (simp only [J3r.out])
   have hci:=J3c.out;have J8i: ¬cap=i+1:=by clear J3e J3r HL HG HK HV H1 J3c;omega
   refine zE [0,0,0,0,0,0,0,0,2] [0,1,2,3,4,5,6,7,8] ?_;repeat (first|refine zA ?_|refine zB ?_|refine zC ?_)
   refine Q4 rfl rfl (λq=>?_);refine wpList_copy_run rfl rfl rfl rfl (J3e.out _ _ _ q) (wpList_nil ⟨rfl,trivial,?_⟩);refine Q6 (λnq=>?_);go_wp2_with (refine wpList_copy_run rfl rfl rfl rfl (Qyu.out _ _ (q+nq)) ?_)
   go_ret
   refine ⟨some ⟨g,off,none⟩,cap,rfl,HG.out.2.2.drewN (q+nq),((HK.out.1.trans_same HK.out.2).mono λk _ e=>?_).drewN (q+nq), .inl rfl⟩;rw [show k=g from e];rfl
  ·-- a new row
   obtain rfl:cap=n:=by clear hcell Q71 h1 hcl hcur;omega
   have hBl:(xs.drop (i*6)).length=(cap-i)*6:=hdl;have hAl:(xs.take (i*6)).length=i*6:=by rw [List.length_take,hl];clear hcell Q71 h1 hcl hcur;omega
   obtain ⟨i0,hi0,hz⟩:=Option.map_eq_some_iff.1 Vo;injection hz with hz0 hz;injection hz with hz1 hz3;obtain ⟨z,hz,J5t⟩:=Option.map_eq_some_iff.1 hz0;obtain ⟨k,hk⟩: ∃k,k=cap+1-i:=⟨_,rfl⟩;have hik:i+k=cap+1:=by rw [hk];clear hcell Q71 h1 hcl hcur hfit;omega
   have hk0:0<k:=by rw [hk];clear hcell Q71 h1 hcl hcur hfit;omega
   have hold:(Builtin.firstCells i0.size i (.slice (some ⟨g,off,none⟩) i cap)).run Tryz.prog w.drew= .ok (xs.take (i*6)).toArray w.drew:=by
    rw [hz1]
    exact run_firstCells_some w.drew 6 i ⟨g,off,none⟩ i cap (xs.take (i*6)) hAl λj v hj=>by
     rw [Jq];rw [List.getElem?_take] at hj;split at hj
     ·exact hcell j v hj
     ·cases hj
   have hap:=Lib.run_append_grow_zeros (P:=Tryz.prog) w 68 3 68 44 i0 z .i64 .i64 Tryz.underlying68 Tryz.underlying3 hi0 hz (some ⟨g,off,none⟩) i cap (xs.take (i*6)) hold k hk0 (by rw [hz1];decide) (by rw [hik];exact Nat.lt_succ_self _) (by rw [hik];clear hcell Q71 h1 hcl hcur hfit hik hk;omega) (by rw [hz3];exact J9b hk hn) (by rw [hz3,hik];exact growslice_fits (Nat.lt_succ_self _) (by omega));rw [hik] at hap;obtain ⟨G,hG⟩: ∃G,G=grownCap w (cap+1) cap 44:=⟨_,rfl⟩;have Qq1:cap+1<=G:=by rw [hG];exact grownCap_ge w (cap+1) cap 44
   have J86:G<=maxLen:=by rw [hG];exact grownCap_le_maxLen w (cap+1) cap 44 (by unfold maxLen;omega)
   rw [<-hG] at hap;obtain ⟨row,hrow⟩: ∃row:Array Value,row=(xs.take (i*6)).toArray++Builtin.zeroCells z.cells k++Builtin.zeroCells z.cells (G-(cap+1)):=⟨_,rfl⟩;rw [<-hrow] at hap;have hrl:row.toList=xs.take (i*6)++((Builtin.zeroCells z.cells k).toList++(Builtin.zeroCells z.cells (G-(cap+1))).toList):=by rw [hrow];simp []
   have hrs:G*6<=row.size:=by
    have h2:=congrArg List.length hrl;rw [List.length_append,List.length_append,hAl,Array.length_toList,Array.length_toList,Array.length_toList,size_zeroCells,size_zeroCells,J5t] at h2;clear hcell Q71 h1 hcl hcur hfit hdl hBl;omega
   obtain ⟨Nc,g1,s1,ho2⟩:=Qcb (w:=w.drew) (e:=44) (sz:=6) (n:=cap) (cap:=G) (i:=i) (news:=Qg x) hrl hAl hBl hi rfl Qq1 J86 hrs;obtain ⟨gs,hgs⟩: ∃gs,gs=w.heap.size:=⟨_,rfl⟩;have Qvp:w.drew.heap.size=gs:=by rw [hgs];rfl
   rw [Qvp] at g1 ho2;rw [<-hgs] at hap;obtain ⟨W1,hW1⟩: ∃W1,W1=w.drew.alloc (.cells row 44):=⟨_,rfl⟩;rw [<-hW1] at hap g1 ho2;have hk1:Kp No w W1:=by rw [hW1];exact (zK.drew).alloc _
   have hb1:W1.heap[gs]?=some (.cells row 44 (0,0)):=by rw [hW1,hgs];exact heap_alloc_new w.drew _
   have hgl:=Q3 hg;have hvl:=Q3 hvb;have hk2:=Um gs (Qg x) (i*6) W1;obtain ⟨W2,hW2⟩: ∃W2,W2=W1.setCells gs (i*6) (Qg x):=⟨_,rfl⟩;rw [<-hW2] at hk2 g1 ho2;have hk3:=Um gs (xs.drop (i*6)) ((i+1)*6) W2
   have hcpA: ∀ty dc,(Builtin.copy_ #[68,68] ty #[.slice (some ⟨gs,i*6,none⟩) (cap+1-i) dc, .slice (some ⟨vb,0,none⟩) 1 1]).run Tryz.prog W1= .ok (goInt ((1:Nat):Int)) W2:=λty dc=>by
    have hmn:Nat.min 1 (cap+1-i)=1:=Nat.min_eq_left (Nat.sub_pos_of_lt (Nat.lt_succ_of_le hi))
    have:=Ez (P:=Tryz.prog) W1 68 68 ty 44 6 gs (i*6) (cap+1-i) dc ⟨vb,0,none⟩ 1 1 (Qg x) Tryz.underlying68 Q3b (by rw [hmn];rfl)
     (λj v hj=>by rw [Jq,hk1.cell (p:=⟨vb,0+j,none⟩) hvl (λx=>x)];exact Q71 j v hj) (cur:=row) (t:=44) hb1 (by rw [J8];clear hcell Q71 h1 hcl hcur hfit hdl hBl;omega) (Yg x)
    rw [this,hmn,hW2]
   have hcpB: ∀ty dc sc m,(Builtin.copy_ #[68,68] ty #[.slice (some ⟨gs,(i+1)*6,none⟩) (cap-i) dc, .slice (some ⟨g,off+i*6,none⟩) (cap-i) sc]).run Tryz.prog (W2.drewN m)= .ok (goInt ((cap-i:Nat):Int)) ((W2.setCells gs ((i+1)*6) (xs.drop (i*6))).drewN m):=λty dc sc m=>by
    have hmn:Nat.min (cap-i) (cap-i)=cap-i:=Nat.min_self _
    have:=Ez (P:=Tryz.prog) (W2.drewN m) 68 68 ty 44 6 gs ((i+1)*6) (cap-i) dc ⟨g,off+i*6,none⟩ (cap-i) sc (xs.drop (i*6)) Tryz.underlying68 Q3b (by rw [hmn,hBl])
     (λj v hj=>by
      rw [Jq,World.cell?_drewN,hk2.cell (p:=⟨g,off+i*6+j,none⟩) (hk1.lt hgl) (λe=>by have e:g=gs:=e;omega),hk1.cell (p:=⟨g,off+i*6+j,none⟩) hgl (λx=>x),Nat.add_assoc];rw [List.getElem?_drop] at hj;exact hcell _ v hj) (cur:=Nc) (t:=44) g1 (by rw [hBl];clear hcell Q71 h1 hcl hcur hfit hdl hBl;omega) (λv hv=>h1 v (List.mem_of_mem_drop hv))
    rw [this,hmn,Vs]
   have hw1:=E2 cap hn;have hw2:=E2 i (Nat.le_trans hi hn);rw [Qlq hik] at hap;have d1:decide ((cap:Int)<((cap+1:Nat):Int))=true:=decide_eq_true (Int.ofNat_lt.2 (Nat.lt_succ_self _));have hb1':(i:Int)<=(cap:Int):=Int.ofNat_le.2 hi;have hb3:(i:Int)<=(cap:Int)+1:=by have:=Int.ofNat_le.2 hi;exact Int.le_trans this (Int.le_of_lt (Int.lt_succ _))
   have J8j: ¬G=i:=λe=>absurd Qq1 (Nat.not_le.2 (by rw [e];exact Nat.lt_succ_of_le hi));have J8k: ¬G=i+1:=λe=>absurd Qq1 (Nat.not_le.2 (by rw [e];exact Nat.succ_lt_succ hin2));have M5:=zz hap;have Qdp:=zz hcpA;have Vj:=zz hcpB
   have Zv:Hid (∀m,Qpj w (some ⟨g,off,none⟩) cap cap i xs (Qg x) (.returned (.slice (some ⟨gs,0,none⟩) (cap+1) G)) ((W2.setCells gs ((i+1)*6) (xs.drop (i*6))).drewN m)):=zz λm=>
    ⟨some ⟨gs,0,none⟩,G,rfl,ho2.drewN m,((((hk1.of_no (S:=One gs)).trans_same hk2).trans_same hk3).mono λj hj e=>absurd hj (by rw [show j=gs from e,hgs];exact Nat.lt_irrefl _)).drewN m, .inr ⟨gs,rfl,by rw [hgs];exact Nat.le_refl _⟩⟩
   clear hap hcpA hcpB hl hdl hBl hAl hk1 hk2 hk3 hvb hgv h1 hO hne hnil hblk hg hfit hcur hcell Q71 hsrc hcl hrs hrl hrow ho2 g1 s1 hb1 hW1 hW2 hG hgs Qvp hgl hvl hold hz hz0 hz1 hz3 J5t hi0 hk hik hk0;go_enter Tryz.func192,Tryz.ntmps192
   go_upto_region 10 with (at_builtin;refine wpList_append_run rfl rfl rfl rfl M5.out ?_)
   go_upto_region 11 with (refine wpList_copy_run rfl rfl rfl rfl (Qdp.out _ _) ?_)
   refine zE [0,0,0,0,0,0,0,0,2] [0,1,2,3,4,5,6,7,8] ?_;repeat (first|refine zA ?_|refine zB ?_|refine zC ?_)
   refine Q4 rfl rfl (λq=>?_);refine wpList_copy_run rfl rfl rfl rfl (Vj.out _ _ _ q) (wpList_nil ⟨rfl,trivial,?_⟩);refine Q6 (λnq=>?_);go_wp2_with fail
   go_ret
   exact Zv.out _
end Go.Proofs.YtgnkmjeoaoongaaGreatDoor
