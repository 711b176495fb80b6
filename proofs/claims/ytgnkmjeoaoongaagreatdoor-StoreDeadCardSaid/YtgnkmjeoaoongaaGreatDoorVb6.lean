/- store -/
import Derived.Test.YtgnkmjeoaoongaaGreatDoorVb2
import Derived.Test.YtgnkmjeoaoongaaGreatDoorVb3
import Derived.Lib.AppendZerosOnto
import Derived.Lib.Overlaps
set_option maxRecDepth 100000
set_option maxHeartbeats 4000000
namespace Go.Proofs.YtgnkmjeoaoongaaGreatDoor
open Go.RowKit Go.Mer
def Qal (w:World) (r x:Nat) (P:ByteArray) (F G:Nat->Prop) (q:Int×Qz×Jf) (e:Ending) (w':World):Prop:=e= .returned (.int .i64 q.1)/\Ym w r x P F G q.2.1 q.2.2 w'
theorem Q44 (w:World) (r x:Nat) (P:ByteArray) (s:Qz) (st:Jf) (F G:Nat->Prop) (h:Ms w r x P s st F G) (hne:st.Qk=[]->st.Qi.length<=st.synced) (hsl:st.synced<=st.Qi.length) (hlen:st.Qi.length<=1000000) (hz: ∀z∈st.Qk,z.1<1000000) (hP:P.size<=50):
  Calls Tryz.prog 123 #[.pointer (some ⟨x,0,none⟩)] w (Qal w r x P F G (Yi P s st)):=by
 obtain ⟨sv,ev,E,hC,hE,Q0c,Ku⟩:=h.log;obtain ⟨ea,ec,rfl,Qob,_⟩:=hC.Qi.rd;have Q2e: ∀W,Kp F w W->Yl W x r P sv (.slice ea E.length ec) (st.Qk.map (·.1)) E (st.synced+1) st.dead:=λW hW=>hC.keep hW (λk hk hf=>h.sep k hf (Q0c k hk));have hll:=Q7 hC.cell;have c0: ∀W,Kp F w W->W.cell? ⟨x,0,none⟩=some (.pointer (some ⟨r,0,none⟩)):=λW hW=>(Q2e W hW).cells.1 W zK;have c1: ∀W,Kp F w W->W.cell? ⟨x,1,none⟩=some (.string P):=λW hW=>(Q2e W hW).cells.2.1 W zK;have c2: ∀W,Kp F w W->W.cell? ⟨x,2,none⟩=some (.slice ea E.length ec):=λW hW=>(Q2e W hW).cells.2.2.1 W zK;have c3: ∀W,Kp F w W->W.cell? ⟨x,3,none⟩=some sv:=λW hW=>(Q2e W hW).cells.2.2.2.1 W zK;have c4: ∀W,Kp F w W->W.cell? ⟨x,4,none⟩=some (.int .i64 ((st.synced+1:Nat):Int)):=λW hW=>(Q2e W hW).cells.2.2.2.2.1 W zK;have c5: ∀W,Kp F w W->W.cell? ⟨x,5,none⟩=some (.bool st.dead):=λW hW=>(Q2e W hW).cells.2.2.2.2.2.1 W zK;have Hr:=c5 w zK;obtain ⟨n,hn⟩: ∃n,n=E.length:=⟨_,rfl⟩;have hnl:st.Qi.length=n:=by rw [hE,List.length_map,hn]
 rw [<-hn] at c2;obtain ⟨y,hy⟩: ∃y,y=st.synced+1:=⟨_,rfl⟩;rw [<-hy] at c4;obtain ⟨n1,hn1⟩: ∃n1,n1=n+1:=⟨_,rfl⟩;have HW1:=zz (show wrap64 ((n:Int)+1)=(n1:Int) by rw [IntWalk.wrap64_in _ (by omega),hn1];push_cast;rfl);have H:=zz h;have HC:=zz hC;have HE:=zz hE;have Qxb:=zz Q0c;have HN:=zz hn;have Qxc:=zz hnl;have HY:=zz hy;have Qop:=zz hn1;have Jic:=zz hsl;have Jdf:=zz Q2e;cases hd:st.dead with
 |true=>
  have HQ:=zz (show Yi P s st=(9,s,st) by unfold Yi;rw [if_pos hd]);rw [hd] at Hr;clear h hC hE Q0c Ku hn hnl hy hn1 hsl Q2e hd c5 hne hz Qob;go_enter Tryz.func123,Tryz.ntmps123
  go_wp2_with fail
  go_ret
  rw [HQ.out];exact ⟨rfl,Ym.here H.out zK⟩
 |false=>
  have hq:Yi P s st=((J0 P s st).1,(J0 P s st).2.1,{(J0 P s st).2.2 with dead:=decide ((J0 P s st).1≠0)}):=by
   unfold Yi;rw [if_neg (by rw [hd];decide)]
  by_cases hyn:y=n1
  ·have hsy:J0 P s st=(0,s,st):=by
    unfold J0;rw [if_neg (by omega)]
   have HQ:=zz (show Yi P s st=(0,s,st) by
    rw [hq,hsy]
    have:({st with dead:=decide ((0:Int)≠0)}:Jf)=st:=by
     have h0:decide ((0:Int)≠0)=false:=by decide
     rw [h0,<-hd]
    simp only
    rw [this])
   have e1:((y:Int)==(n1:Int))=true:=by rw [beq_iff_eq,hyn]
   rw [hd] at Hr;clear h hC hE Q0c Ku hn hnl hy hn1 hsl Q2e hd c5 hne hz Qob hsy hq hyn;go_enter Tryz.func123,Tryz.ntmps123
   have hw1:=HW1.out;go_upto_region 3 with fail
   refine zD F [0,0,0,0,0,0,0,0,1,0,0] [0,1,2,3,4,5,6,7,8,9,10] ?_;repeat (first|refine zA ?_|refine zB ?_|refine zC ?_)
   refine Qa (λnq=>?_);go_wp2_with fail
   go_ret
   rw [HQ.out];exact ⟨rfl,Ym.here H.out ((Kp.refl No w).drewN nq)⟩
  ·have hlt:st.synced<st.Qi.length:=by omega
   rcases List.eq_nil_or_concat st.Qk with hsg|⟨S1,z,hsg⟩
   ·have:=hne hsg;omega
   ·rw [List.concat_eq_append] at hsg;have hC2:=hC;rw [hsg,List.map_append,List.map_cons,List.map_nil] at hC2;obtain ⟨sg,Hc,sn,sc,rfl,hsn,Qqa,Qbu,Gt⟩:=hC2.Oc;obtain ⟨m2,hm2⟩: ∃m2,m2=(S1.map (·.1)).length:=⟨_,rfl⟩;rw [<-hm2] at hsn Gt;have hms:m2<sn:=by omega
    have hw3:(sn:Int)-1=(m2:Int):=by omega
    have Q7k:=hz z (by rw [hsg];simp);have J8g: ¬F sg:=λhf=>h.sep sg hf (Q0c sg (.inr (.inl rfl)));have hsc: ∀W,Kp F w W->W.cell? ⟨sg,Hc+m2,none⟩=some (.int .i64 (z.1:Int)):=λW hW=>(hW.cell (p:=⟨sg,Hc+m2,none⟩) Qbu J8g).trans (Gt w zK)
    have Q6g:=zz (show J0 P s st=((Da s (X7 P z.1)).1,(Da s (X7 P z.1)).2,if (Da s (X7 P z.1)).1=0 then {st with synced:=st.Qi.length} else st) by
     unfold J0;rw [if_pos hlt,hsg,List.getLast?_append];rfl)
    obtain ⟨zn,hzn⟩: ∃zn,zn=z.1:=⟨_,rfl⟩;rw [<-hzn] at hsc Q6g Q7k;have Q2a:=zz (λW=>Kl P (by omega) zn Q7k W);have e1:((y:Int)==(n1:Int))=false:=by rw [beq_eq_false_iff_ne];omega
    have HQ:=zz hq;have HD:=zz hd;rw [hd] at Hr;clear h hC hC2 hE Q0c Ku hn hnl hy hn1 hsl Q2e hd c5 hne hz Qob hq hyn hsg hm2 hsn Q7k Gt hzn hlt;go_enter Tryz.func123,Tryz.ntmps123
    have hw1:=HW1.out;go_upto_region 3 with fail
    refine zD F [0,0,0,0,0,0,0,0,1,0,0] [0,1,2,3,4,5,6,7,8,9,10] ?_;repeat (first|refine zA ?_|refine zB ?_|refine zC ?_)
    refine Qa (λnq=>?_);clear hw1;go_upto_region 5 with fail
    obtain ⟨w2,hw2⟩: ∃W,W=w.drewN nq:=⟨_,rfl⟩;have hk2:Kp No w w2:=by rw [hw2];exact (Kp.refl No w).drewN nq
    rw [<-hw2];clear hw2;have J09:w2.cell? ⟨x,3,none⟩=some (.slice (some ⟨sg,Hc,none⟩) sn sc):=c3 w2 (Kp.Qx hk2);refine Xb (Kp F w) [0,0,0,0,0,0,0,0,0,0,0,0,0,0,0,0,1,0,0,0,2,2,0] [0,1,2,3,4,5,6,7,8,9,10,11,12,13,14,15,16,17,18,19,20,21,22] (by kernel_rfl) (by kernel_rfl) (λ_ n h=>h.drewN n) (Kp.Qx hk2) ?_;repeat (first|refine zA ?_|refine zB ?_|refine zC ?_)
    have Jdg:=zz c3;clear c0 c1 c2 c3 c4 hsc J09;refine Q8 rfl rfl (λn2=>?_);have hc:=Q2a.out (w2.drewN n2);go_wp2_with fail
    with_reducible refine hc.mono ?_
    rintro e w3 ⟨rfl,hk3⟩;clear hc;go_wp2_with fail
    have Qq3:Kp No w w3:=hk2.Q0 hk3.Qf;refine ⟨Kp.Qx Qq3,?_⟩;refine Q8 rfl rfl (λn3=>?_);have hc:=Qgo (w3.drewN n3) r s F (H.out.disk.Q9 (Qq3.drewN n3)) (X7 P zn);obtain ⟨q,hqe⟩: ∃q,q=Da s (X7 P zn):=⟨_,rfl⟩;obtain ⟨kn,hkn⟩:=Qn8 (s:=s) (x:=X7 P zn);have hsy:=Q6g.out;rw [<-hqe] at hc hkn hsy;have Jak:=zz hsy;have U3:=zz hkn;have Zk:=zz Qq3;clear hqe hkn hsy Q6g hk3 hk2 Qq3;go_wp2_with fail
    with_reducible refine hc.mono ?_
    rintro e w4 ⟨rfl,F4,hD4,Qfu,hK4⟩;clear hc;have Qvj:Kp F w3 w4:=hK4.Qf;have Jbx:Ms w4 r x P q.2 st F4 G:=(H.out.no Zk.out).Q1w hD4 Qfu Qvj;have Qxk:=zz Jbx;have J5c:=zz (show Je F F4 w from λk hk=>(Qfu k hk).imp id λh=>Nat.le_trans Zk.out.size h);have Gf:=zz (show Kp F w w4 from (Kp.Qx Zk.out).Q0 Qvj);clear hD4 Qfu hK4 Qvj Jbx;rw [U3.out];go_wp2_with fail
    refine ⟨Gf.out,?_⟩;repeat (first|refine zA ?_|refine zB ?_|refine zC ?_)
    refine Qa (λnq=>?_);obtain ⟨w5,hw5⟩: ∃W,W=w4.drewN nq:=⟨_,rfl⟩;have hk5:Kp No w4 w5:=by rw [hw5];exact (Kp.refl No w4).drewN nq
    rw [<-hw5];have J43:=zz (Qxk.out.no hk5);have Vb:=zz (Gf.out.Qr hk5);clear hw5;by_cases hkz:kn=0
    ·subst hkz;have Hs:=Jdf.out w5 Vb.out;obtain ⟨_,_,f2,_,f4,_,Jba⟩:=Hs.cells;have Jfw:=f2 w5 zK;have Jiv:=f4 w5 zK;have Jiw:=Jba w5 zK 4;rw [<-HN.out] at Jfw;have hl5:=Q7 Hs.cell;have hcl:=Ql Hs.cell 4 (.int .i64 ((n+1:Nat):Int));have Qpx:Yz w5 w5 x r P (.slice (some ⟨sg,Hc,none⟩) sn sc) (.slice ea E.length ec) (st.Qk.map (·.1)) E (st.synced+1) st.dead G:=⟨Hs,λk hk=> .inl (Qxb.out k hk),Kp.refl _ _⟩;have Qka:=Qpx.flag (Yd:=n+1) (Fg:=st.dead) (W':=w5.setCell ⟨x,4,none⟩ (.int .i64 ((n+1:Nat):Int))) ((Kp.refl (One x) _).setCell (p:=⟨x,4,none⟩) (.inl rfl) _) (by simpa using hcl);obtain ⟨G2,hL2,hG2,hK2⟩:=Qka.stop rfl;have J7b:=J43.out.Q1x hL2 hG2 hK2
     have Yf:=zz (show Qal w r x P F G (Yi P s st) (.returned (.int .i64 0)) (w5.setCell ⟨x,4,none⟩ (.int .i64 ((n+1:Nat):Int))) from by
      have h0:q.1=0:=U3.out;unfold Qal;rw [HQ.out,Jak.out];simp only
      rw [h0,if_pos rfl];refine ⟨rfl,F4,G2,?_,J5c.out,λk hk=>(hG2 k hk).imp id λh=>Nat.le_trans Vb.out.size h,?_⟩
      ·rw [<-HE.out] at J7b
       have hst:({{st with synced:=st.Qi.length} with dead:=decide ((0:Int)≠0)}:Jf)=⟨st.Qi,st.Qk,n,st.dead⟩:=by
        rw [Qxc.out,HD.out];rfl
       rw [hst];exact J7b
      ·exact (Vb.out.mono (T:=V2 F G) λ_ _ x=> .inl x).trans hK2 λi _ x=> .inr x)
     have J1x:((n1:Nat):Int)=((n+1:Nat):Int):=by rw [Qop.out]
     rw [<-J1x] at Yf;clear Hs hcl Qpx Qka hL2 hG2 hK2 J7b f2 f4 Jba J1x;have hw1:=HW1.out;go_wp2_with fail
     go_ret
     exact Yf.out
    ·have e3:((kn:Int)==(0:Int))=false:=by rw [beq_eq_false_iff_ne];omega
     have e4:((kn:Int) !=(0:Int))=true:=by rw [bne,e3];rfl
     obtain ⟨⟨z5,Qta⟩,hf5,hl5,hfin⟩:=J43.out.dead true
     have Yf:=zz (show Qal w r x P F G (Yi P s st) (.returned (.int .i64 (kn:Int))) (w5.setCell ⟨x,5,none⟩ (.bool true)) from by
      unfold Qal;rw [HQ.out,Jak.out];simp only
      rw [U3.out,if_neg (show ¬((kn:Int)=0) by omega)];refine ⟨rfl,?_⟩;have J7u:decide ((kn:Int)≠0)=true:=decide_eq_true (by omega);rw [J7u];obtain ⟨F6,G6,h1,h2,h3,h4⟩:=hfin;refine ⟨F6,G6,h1,J5c.out.trans (λk hk=>h2 k hk) Vb.out.size,λk hk=>(h3 k hk).imp id λh=>Nat.le_trans Vb.out.size h,?_⟩;refine (Vb.out.mono (T:=V2 F G) λ_ _ x=> .inl x).trans h4 λi hi hb=>?_;rcases hb with hb|hb
      ·rcases J5c.out i hb with h5|h5
       ·exact .inl h5
       ·omega
      ·exact .inr hb)
     clear hfin;go_wp2_with fail
     go_ret
     exact Yf.out
end Go.Proofs.YtgnkmjeoaoongaaGreatDoor
namespace Go.Mer
open Go Go.RowKit
section
variable {P:Program}
theorem Gq (w:World) (dT sT ty elem:TypeId) (sz g off dLen dCap:Nat) (a:Addr) (sLen sCap:Nat) (xs:List Value) (hu:P.underlying dT=some (.slice elem)) (hs:(P.info? elem).map (·.size)=some sz) (hn:xs.length=Nat.min sLen dLen*sz)
  (hsrc: ∀j v,xs[j]?=some v->w.cell? (a.add j)=some v) {cur:Array Value} {t:TypeId} (hg:w.heap[g]?=some (.cells cur t (0,0))) (hfit:off+xs.length<=cur.size) (h1: ∀v∈xs,v.oneCell'=true):
  (Builtin.copy_ #[dT,sT] ty #[.slice (some ⟨g,off,none⟩) dLen dCap, .slice (some a) sLen sCap]).run P w= .ok (goInt (Nat.min sLen dLen)) (w.setCells g off xs):=by
 have hl:=run_loadCells_list (P:=P) w a xs hsrc
 have hst:=run_storeCells_cells (P:=P) g off xs 0 w (by
  intro j hj;rw [Nat.add_zero,Q4 hg];simp;omega) (by intro j _;exact Qh hg _) h1
 cases hq:P.info? elem with
 |none=>simp [hq] at hs
 |some i=>
  have hi:i.size=sz:=by simpa [hq] using hs
  simp only [Nat.add_zero] at hst;simp [Builtin.copy_,run_underlying hu,Builtin.lenOf,Builtin.firstCells,sizeOf,typeInfo,hq,hi,<-hn,hl,hst]
theorem wpList_copy_run {ops:Array Oper} {rest:List Oper} {o:Oper} {a:Act} {w:World} {Q:Exit->Act->World->Prop} {w':World} {s x:Operand} {t t':TypeId} {v xv v':Value} (hgd:o.guard=none)
  (ho:o.op= .call {callee:= .builtin .copy,args:= #[s,x],argTypes:= #[t,t']}) (hs:a.eval s=v) (hx:a.eval x=xv)
  (hrun:(Builtin.copy_ #[t,t'] o.type #[v,xv]).run P w= .ok v' w') (h:wpList P ops Q rest (a.put o.dst v') w'):wpList P ops Q (o::rest) a w:=
 wpList_plain hgd λ_ hK=>by
  unfold Oper.wp execOp;simp only [ho,resolve,invoke,builtin,Sem.run_bind,Sem.run_pure,Result.andThen_ok,List.map_toArray,List.map_cons,List.map_nil,hs,hx,hrun];exact hK _ _ h
end
theorem Uc (g n:Nat): ∀(l:List Value) (o:Nat) (w:World),(w.drewN n).setCells g o l=(w.setCells g o l).drewN n
 |[],_,_=>rfl
 |v::l,o,w=>by
  rw [World.setCells,World.setCells];exact Uc g n l (o+1) (w.setCell ⟨g,o,none⟩ v)
theorem Fi (g:Nat): ∀(l:List Value) (o:Nat) (a:World),Kp (One g) a (a.setCells g o l)
 |[],_,_=>Kp.refl _ _
 |u::l,o,a=>by
  have h1:Kp (One g) a (a.setCell ⟨g,o,none⟩ u):=(Kp.refl (One g) a).setCell (p:=⟨g,o,none⟩) (.inl rfl) u;have h2:=h1.Q0 (Fi g l (o+1) (a.setCell ⟨g,o,none⟩ u));simpa [World.setCells] using h2
theorem Ud {w:World} {g off:Nat} {cur:Array Value} {e:TypeId} (hg:w.heap[g]?=some (.cells cur e (0,0))) {X Y Z ys:List Value} (hc:cur.toList=X++(Y++Z)) (hX:off=X.length) (hY:ys.length=Y.length):
  ∃cur',(w.setCells g off ys).heap[g]?=some (.cells cur' e (0,0))/\cur'.toList=X++(ys++Z)/\cur'.size=cur.size:=by
 have hsz:cur.size=X.length+(Y.length+Z.length):=by
  have:=congrArg List.length hc;simpa using this
 obtain ⟨cur',h1,h2,h3⟩:=G7 g e ys w off cur hg (by omega);refine ⟨cur',h1,?_,h2⟩;rw [h3,hc,hX,List.take_left' rfl,hY];have:X++(Y++Z)=(X++Y)++Z:=by rw [List.append_assoc]
 rw [this,List.drop_left' (by rw [List.length_append]),List.append_assoc]
theorem Qc6 {w:World} {e:TypeId} {sz g off n cap i:Nat} {xs news:List Value} (h:Own w e sz (.slice (some ⟨g,off,none⟩) n cap) n xs) (hi:i<=n) (hc:n+1<=cap) (hn:news.length=sz):
  ∃Mv,(w.setCells g (off+(i+1)*sz) (xs.drop (i*sz))).heap[g]?=some (.cells Mv e (0,0))/\off+(n+1)*sz<=Mv.size/\
  Own ((w.setCells g (off+(i+1)*sz) (xs.drop (i*sz))).setCells g (off+i*sz) news) e sz (.slice (some ⟨g,off,none⟩) (n+1) cap) (n+1) (xs.take (i*sz)++(news++xs.drop (i*sz))):=by
 obtain ⟨hl,a,cap',hv,h1,h2,h3,h4⟩:=h;injection hv with hv1 hv2 hv3;subst hv3;obtain ⟨g',off',cur,had,hg,hfit,hx⟩:=h4 ⟨g,off,none⟩ hv1.symm;injection had with e1 e2;subst e1;subst e2;have m1:i*sz<=n*sz:=Nat.mul_le_mul_right _ hi;have m2:(n+1)*sz<=cap*sz:=Nat.mul_le_mul_right _ hc;have m3:(n+1)*sz=n*sz+sz:=by rw [Nat.add_mul,Nat.one_mul]
 have m4:(i+1)*sz=i*sz+sz:=by rw [Nat.add_mul,Nat.one_mul]
 have hcl:cur.toList.length=cur.size:=Array.length_toList;obtain ⟨A,hA⟩: ∃A,A=xs.take (i*sz):=⟨_,rfl⟩;obtain ⟨B,hB⟩: ∃B,B=xs.drop (i*sz):=⟨_,rfl⟩;have hAB:xs=A++B:=by rw [hA,hB,List.take_append_drop]
 have hAl:A.length=i*sz:=by rw [hA,List.length_take];omega
 have hBl:B.length=n*sz-i*sz:=by rw [hB,List.length_drop,hl]
 obtain ⟨X,hX⟩: ∃X,X=cur.toList.take off:=⟨_,rfl⟩;have Qxw:X.length=off:=by rw [hX,List.length_take];omega
 obtain ⟨Z,hZ⟩: ∃Z,Z=(cur.toList.drop off).drop (n*sz):=⟨_,rfl⟩;have Jj1:Z.length=cur.size-off-n*sz:=by rw [hZ,List.length_drop,List.length_drop,hcl]
 have J5:cur.toList=X++(A++(B++Z)):=by
  rw [<-List.append_assoc A,<-hAB,hX,hZ,<-hx,List.take_append_drop,List.take_append_drop]
 rw [<-hA,<-hB];obtain ⟨N,hN⟩: ∃N,N=(B++Z).take sz:=⟨_,rfl⟩;obtain ⟨O,hO⟩: ∃O,O=((B++Z).drop sz).take B.length:=⟨_,rfl⟩;obtain ⟨R,hR⟩: ∃R,R=((B++Z).drop sz).drop B.length:=⟨_,rfl⟩;have hNl:N.length=sz:=by rw [hN,List.length_take,List.length_append];omega
 have J77:O.length=B.length:=by rw [hO,List.length_take,List.length_drop,List.length_append];omega
 have Jg2:B++Z=N++(O++R):=by rw [hN,hO,hR,List.take_append_drop,List.take_append_drop]
 have hc1:cur.toList=(X++(A++N))++(O++R):=by rw [J5,Jg2];simp [List.append_assoc]
 obtain ⟨Mv,g1,l1,s1⟩:=Ud (off:=off+(i+1)*sz) (ys:=B) hg hc1 (by rw [List.length_append,List.length_append,Qxw,hAl,hNl];omega) J77.symm;have hc2:Mv.toList=(X++A)++(N++(B++R)):=by rw [l1];simp [List.append_assoc]
 obtain ⟨Qjp,g2,l2,s2⟩:=Ud (off:=off+i*sz) (ys:=news) g1 hc2 (by rw [List.length_append,Qxw,hAl]) (by rw [hn,hNl]);refine ⟨Mv,g1,by omega,by simp only [List.length_append,hAl,hBl,hn];omega,some ⟨g,off,none⟩,cap,rfl,hc,h2,λh=>(by cases h),λad had=>?_⟩;injection had with had;subst had;refine ⟨g,off,Qjp,rfl,g2,by omega,?_⟩;have e3:Qjp.toList=X++((A++(news++B))++R):=by rw [l2];simp [List.append_assoc]
 rw [e3,List.drop_left' Qxw,List.take_left' (by simp only [List.length_append,hAl,hBl,hn];omega)]
theorem Qgh {w:World} {e:TypeId} {sz n cap i:Nat} {A B Z news:List Value} {row:Array Value} (hr:row.toList=A++Z) (hA:A.length=i*sz) (hB:B.length=(n-i)*sz) (hi:i<=n) (hn:news.length=sz) (hc:n+1<=cap) (hm:cap<=maxLen) (hz:cap*sz<=row.size):
  ∃Mv,((w.alloc (.cells row e)).setCells w.heap.size (i*sz) news).heap[w.heap.size]?=some (.cells Mv e (0,0))/\(n+1)*sz<=Mv.size/\
  Own (((w.alloc (.cells row e)).setCells w.heap.size (i*sz) news).setCells w.heap.size ((i+1)*sz) B) e sz (.slice (some ⟨w.heap.size,0,none⟩) (n+1) cap) (n+1) (A++(news++B)):=by
 have hrl:row.size=A.length+Z.length:=by
  have:=congrArg List.length hr;simpa using this
 have m2:(n+1)*sz<=cap*sz:=Nat.mul_le_mul_right _ hc;have m3:(n+1)*sz=n*sz+sz:=by rw [Nat.add_mul,Nat.one_mul]
 have m4:(i+1)*sz=i*sz+sz:=by rw [Nat.add_mul,Nat.one_mul]
 have m5:i*sz+(n-i)*sz=n*sz:=by rw [<-Nat.add_mul];congr 1;omega
 obtain ⟨N,hN⟩: ∃N,N=Z.take sz:=⟨_,rfl⟩;obtain ⟨O,hO⟩: ∃O,O=(Z.drop sz).take B.length:=⟨_,rfl⟩;obtain ⟨R,hR⟩: ∃R,R=(Z.drop sz).drop B.length:=⟨_,rfl⟩;have hNl:N.length=sz:=by rw [hN,List.length_take];omega
 have J77:O.length=B.length:=by rw [hO,List.length_take,List.length_drop];omega
 have hZ:Z=N++(O++R):=by rw [hN,hO,hR,List.take_append_drop,List.take_append_drop]
 rw [hZ] at hr;obtain ⟨Mv,g1,l1,s1⟩:=Ud (w:=w.alloc (.cells row e)) (g:=w.heap.size) (off:=i*sz) (ys:=news) (heap_alloc_new w _) hr hA.symm (by rw [hn,hNl]);have hc2:Mv.toList=(A++news)++(O++R):=by rw [l1];simp [List.append_assoc]
 obtain ⟨Qjp,g2,l2,s2⟩:=Ud (off:=(i+1)*sz) (ys:=B) g1 hc2 (by rw [List.length_append,hA,hn];omega) J77.symm;refine ⟨Mv,g1,by omega,by simp only [List.length_append,hA,hB,hn];omega,some ⟨w.heap.size,0,none⟩,cap,rfl,hc,hm,λh=>(by cases h),λad had=>?_⟩;injection had with had;subst had;refine ⟨w.heap.size,0,Qjp,rfl,g2,by omega,?_⟩;have e3:Qjp.toList=(A++(news++B))++R:=by rw [l2];simp [List.append_assoc]
 rw [List.drop_zero,e3,List.take_left' (by simp only [List.length_append,hA,hB,hn];omega)]
end Go.Mer
namespace Go.Proofs.YtgnkmjeoaoongaaGreatDoor
open Go.RowKit Go.Mer
def Quf (w:World) (a:Option Addr) (n cap i:Nat) (xs news:List Value) (e:Ending) (w':World):Prop:=
 ∃a' c',e= .returned (.slice a' (n+1) c')/\Own w' 44 6 (.slice a' (n+1) c') (n+1) (xs.take (i*6)++(news++xs.drop (i*6)))/\Kp (λk=>(Value.slice a n cap).ownBlock=some k) w w'/\
  ((Value.slice a' (n+1) c').ownBlock=(Value.slice a n cap).ownBlock\/ ∃g,(Value.slice a' (n+1) c').ownBlock=some g/\w.heap.size<=g)
theorem Ei (n:Nat) (h:n<=1000000):wrap64 ((n:Int)+1)=((n+1:Nat):Int):=by
 rw [IntWalk.wrap64_in _ (by omega)];push_cast
 rfl
theorem Jhd {k n i:Nat} (h:k=n+1-i) (hn:n<=1000000):k*64<=281474976710656:=by omega
theorem Qqj {k n i:Nat} (h:i+k=n+1):(k:Int)=(n:Int)+1-(i:Int):=by omega
theorem Q5t:(Tryz.prog.info? 44).map (·.size)=some 6:=by kernel_rfl
theorem Qah (w:World) (a:Option Addr) (n cap i:Nat) (xs:List Value) (hO:Own w 44 6 (.slice a n cap) n xs) (hi:i<=n) (hn:n<=1000000) (h1: ∀u∈xs,u.oneCell'=true)
  (vb:Nat) (x:Qm) (t:TypeId) (hvb:w.heap[vb]?=some (.cells (Qv x).toArray t (0,0))) (hne:(Value.slice a n cap).ownBlock≠some vb):
  Calls Tryz.prog 192 #[.slice a n cap, .int .i64 (i:Int), .slice (some ⟨vb,0,none⟩) 1 1] w (Quf w a n cap i xs (Qv x)):=by
 obtain ⟨hl,a0,cap0,ev,hnc,hcm,hnil,hblk⟩:=id hO;injection ev with ev1 Jfu Jfv;clear Jfu;subst ev1;subst Jfv
 have hsrc:Mer.Src w 6 (.slice (some ⟨vb,0,none⟩) 1 1) 1 (Qv x):=by
  have:=Of (f:=Qv) Zm hvb (x:=x) rfl;simpa using this
 have hcm2:cap<=9223372036854775807:=by unfold maxLen at hcm;omega
 by_cases hin:i=n
 ·subst hin;obtain ⟨i0,hi0,hz⟩:=Option.map_eq_some_iff.1 Nr;injection hz with hz0 hz;injection hz with hz1 hz2;obtain ⟨z,hz,hz3⟩:=Option.map_eq_some_iff.1 hz0;obtain ⟨v',w',hrun,ho,hkp,hb⟩:=Z0 (P:=Tryz.prog) 68 68 68 44 i0 z 6 64 Tryz.underlying68 ⟨_,Tryz.underlying68⟩ hi0 hz hz1 hz2 hz3 _ i xs hO _ 1 (Qv x) hsrc (Fu x) (by unfold maxLen;omega) (by omega);obtain ⟨_,a',c',rfl,_⟩:=id ho;have HX:=zz hrun
  have Yf:=zz (show Quf w a i cap i xs (Qv x) (.returned (.slice a' (i+1) c')) w' from ⟨a',c',rfl,by
   rw [List.take_of_length_le (by omega),List.drop_of_length_le (by omega),List.append_nil];exact ho,hkp,hb⟩)
  clear hrun ho hkp hb hO hvb hsrc hi0 hz hz0 hz1 hz2 hz3 hl hblk hnil;by_cases hci:cap=i
  ·subst hci;go_enter Tryz.func192,Tryz.ntmps192
   go_wp2_with (at_builtin;refine wpList_append_run rfl rfl rfl rfl HX.out ?_)
   go_ret
   exact Yf.out
  ·have Jgg: ¬((cap:Int)=(i:Int)):=by omega
   go_enter Tryz.func192,Tryz.ntmps192
   go_wp2_with (at_builtin;refine wpList_append_run rfl rfl rfl rfl HX.out ?_)
   go_ret
   exact Yf.out
 ·have hin2:i<n:=by omega
  cases a with
  |none=>have:=hnil rfl;omega
  |some ad=>
  obtain ⟨g,off,cur,rfl,hg,hfit,J5⟩:=hblk ad rfl;have hgv:g≠vb:=λe=>hne (by rw [e];rfl);have hz2:((i:Int)==(n:Int))=false:=by rw [beq_eq_false_iff_ne];omega
  have hci: ¬cap=i:=by omega
  have hcl:cur.toList.length=cur.size:=Array.length_toList
  have hcell: ∀j v,xs[j]?=some v->w.cell? ⟨g,off+j,none⟩=some v:=λj v hj=>by
   rw [Q4 hg];rw [<-J5,List.getElem?_take] at hj;split at hj
   ·rw [List.getElem?_drop] at hj;simpa using hj
   ·cases hj
  have Qa3: ∀j v,(Qv x)[j]?=some v->w.cell? ⟨vb,0+j,none⟩=some v:=λj v hj=>by
   rw [Q4 hvb];simpa using hj
  have hdl:(xs.drop (i*6)).length=(n-i)*6:=by rw [List.length_drop,hl];omega
  by_cases hroom:n+1<=cap
  ·-- in place
   obtain ⟨Mv,g1,s1,ho2⟩:=Qc6 (news:=Qv x) hO hi hroom rfl;have hk1:=Fi g (xs.drop (i*6)) (off+(i+1)*6) w;have hk2:=Fi g (Qv x) (off+i*6) (w.setCells g (off+(i+1)*6) (xs.drop (i*6)));have hmn:Nat.min (n+1-i) (n-i)=n-i:=by simp only [Nat.min_def];split<;>omega
   have hcpA: ∀ty dc sc m,(Builtin.copy_ #[68,68] ty #[.slice (some ⟨g,off+(i+1)*6,none⟩) (n-i) dc, .slice (some ⟨g,off+i*6,none⟩) (n+1-i) sc]).run Tryz.prog (w.drewN m)= .ok (goInt ((n-i:Nat):Int)) ((w.setCells g (off+(i+1)*6) (xs.drop (i*6))).drewN m):=λty dc sc m=>by
    have:=Gq (P:=Tryz.prog) (w.drewN m) 68 68 ty 44 6 g (off+(i+1)*6) (n-i) dc ⟨g,off+i*6,none⟩ (n+1-i) sc (xs.drop (i*6)) Tryz.underlying68 Q5t (by rw [hdl,hmn])
     (λj v hj=>by rw [Z8,Nat.add_assoc];rw [List.getElem?_drop] at hj;exact hcell _ v hj) (cur:=cur) (t:=44) hg (by rw [hdl];omega) (λv hv=>h1 v (List.mem_of_mem_drop hv))
    rw [this,hmn,Uc]
   have hov: ∀lb cb,(callFunc 236 #[.slice (some ⟨vb,0,none⟩) 1 1, .slice (some ⟨g,off+(i+1)*6,none⟩) lb cb]).run Tryz.prog w= .ok (.value (.bool false)) w:=λlb cb=>by
    rw [run_callFunc_extern Tryz.func236 (by kernel_rfl) (by kernel_rfl) (by kernel_rfl) (e:=Extern.SlicesOverlaps.overlaps #[68,68] #[4]) (by kernel_rfl),
     Lib.run_overlaps_apart w 68 4 44 Tryz.underlying68 6 Tryz.sizeOf44 ⟨vb,0,none⟩ ⟨g,off+(i+1)*6,none⟩ 1 1 lb cb (λe=>hgv e.symm) t 44 6 cur.size (by simp [World.shape?,hvb];rfl) (by simp [World.shape?,hg]) (by omega) (Qh hvb 0) (Qh hvb 6)]
    rfl
   obtain ⟨W0,hW0⟩: ∃W0,W0=w.setCells g (off+(i+1)*6) (xs.drop (i*6)):=⟨_,rfl⟩;rw [<-hW0] at hk1 hk2 g1 ho2;simp only [<-hW0] at hcpA;clear hW0
   have hcpB: ∀ty dc m,(Builtin.copy_ #[68,68] ty #[.slice (some ⟨g,off+i*6,none⟩) (n+1-i) dc, .slice (some ⟨vb,0,none⟩) 1 1]).run Tryz.prog (W0.drewN m)= .ok (goInt ((1:Nat):Int)) ((W0.setCells g (off+i*6) (Qv x)).drewN m):=λty dc m=>by
    have J7n:1<=n+1-i:=Nat.sub_pos_of_lt (Nat.lt_succ_of_le hi);have J1v:Nat.min 1 (n+1-i)=1:=Nat.min_eq_left J7n
    have:=Gq (P:=Tryz.prog) (W0.drewN m) 68 68 ty 44 6 g (off+i*6) (n+1-i) dc ⟨vb,0,none⟩ 1 1 (Qv x) Tryz.underlying68 Q5t (by rw [J1v];rfl)
     (λj v hj=>by rw [Z8,World.cell?_drewN,hk1.cell (p:=⟨vb,0+j,none⟩) (Q7 hvb) (λe=>hgv (show vb=g from e).symm)];exact Qa3 j v hj) (cur:=Mv) (t:=44) g1 (by rw [Zm];clear hcell Qa3 h1 hcl J5 hfit hdl g1 hmn;omega) (Fu x)
    rw [this,J1v,Uc]
   have hw1:=Ei n hn;have hw2:=Ei i (Nat.le_trans hi hn);have d1:decide ((cap:Int)<((n+1:Nat):Int))=false:=decide_eq_false λh=>Nat.not_lt.2 hroom (Int.ofNat_lt.1 h);have hb1:(i:Int)<=(n:Int):=Int.ofNat_le.2 hi;have hb3:(i:Int)<=(n:Int)+1:=by have:=Int.ofNat_le.2 hi;exact Int.le_trans this (Int.le_of_lt (Int.lt_succ _))
   have Qs1:=zz hcpA;have Jag:=zz hov;have J58:=zz hcpB;have HL:=zz (And.intro hl (And.intro hdl hmn));have HG:=zz (And.intro g1 (And.intro s1 ho2));have HK:=zz (And.intro hk1 hk2);have HV:=zz (And.intro hvb hgv);have H1:=zz h1;have Ja1:=zz hci;clear hcpA hcpB hov hl hdl hmn g1 s1 ho2 hk1 hk2 hvb hgv h1 hO hne hnil hblk hg hfit J5 hcell Qa3 hsrc hcl hci;go_enter Tryz.func192,Tryz.ntmps192
   go_upto_region 15 with (simp only [Jag.out])
   have hci:=Ja1.out;have Jgh: ¬cap=i+1:=by clear Qs1 Jag HL HG HK HV H1 Ja1;omega
   refine zE [0,0,0,0,0,0,0,0,2] [0,1,2,3,4,5,6,7,8] ?_;repeat (first|refine zA ?_|refine zB ?_|refine zC ?_)
   refine Q8 rfl rfl (λq=>?_);refine wpList_copy_run rfl rfl rfl rfl (Qs1.out _ _ _ q) (wpList_nil ⟨rfl,trivial,?_⟩);refine Qa (λnq=>?_);go_wp2_with (refine wpList_copy_run rfl rfl rfl rfl (J58.out _ _ (q+nq)) ?_)
   go_ret
   refine ⟨some ⟨g,off,none⟩,cap,rfl,HG.out.2.2.drewN (q+nq),((HK.out.1.Q0 HK.out.2).mono λk _ e=>?_).drewN (q+nq), .inl rfl⟩;rw [show k=g from e];rfl
  ·-- a new row
   obtain rfl:cap=n:=by clear hcell Qa3 h1 hcl J5;omega
   have hBl:(xs.drop (i*6)).length=(cap-i)*6:=hdl;have hAl:(xs.take (i*6)).length=i*6:=by rw [List.length_take,hl];clear hcell Qa3 h1 hcl J5;omega
   obtain ⟨i0,hi0,hz⟩:=Option.map_eq_some_iff.1 Nr;injection hz with hz0 hz;injection hz with hz1 hz3;obtain ⟨z,hz,Jcj⟩:=Option.map_eq_some_iff.1 hz0;obtain ⟨k,hk⟩: ∃k,k=cap+1-i:=⟨_,rfl⟩;have hik:i+k=cap+1:=by rw [hk];clear hcell Qa3 h1 hcl J5 hfit;omega
   have hk0:0<k:=by rw [hk];clear hcell Qa3 h1 hcl J5 hfit;omega
   have hold:(Builtin.firstCells i0.size i (.slice (some ⟨g,off,none⟩) i cap)).run Tryz.prog w.drew= .ok (xs.take (i*6)).toArray w.drew:=by
    rw [hz1]
    exact run_firstCells_some w.drew 6 i ⟨g,off,none⟩ i cap (xs.take (i*6)) hAl λj v hj=>by
     rw [Z8];rw [List.getElem?_take] at hj;split at hj
     ·exact hcell j v hj
     ·cases hj
   have hap:=Lib.run_append_grow_zeros (P:=Tryz.prog) w 68 3 68 44 i0 z .i64 .i64 Tryz.underlying68 Tryz.underlying3 hi0 hz (some ⟨g,off,none⟩) i cap (xs.take (i*6)) hold k hk0 (by rw [hz1];decide) (by rw [hik];exact Nat.lt_succ_self _) (by rw [hik];clear hcell Qa3 h1 hcl J5 hfit hik hk;omega) (by rw [hz3];exact Jhd hk hn) (by rw [hz3,hik];exact growslice_fits (Nat.lt_succ_self _) (by omega));rw [hik] at hap;obtain ⟨G,hG⟩: ∃G,G=grownCap w (cap+1) cap 44:=⟨_,rfl⟩;have Quy:cap+1<=G:=by rw [hG];exact grownCap_ge w (cap+1) cap 44
   have Jg5:G<=maxLen:=by rw [hG];exact grownCap_le_maxLen w (cap+1) cap 44 (by unfold maxLen;omega)
   rw [<-hG] at hap;obtain ⟨row,hrow⟩: ∃row:Array Value,row=(xs.take (i*6)).toArray++Builtin.zeroCells z.cells k++Builtin.zeroCells z.cells (G-(cap+1)):=⟨_,rfl⟩;rw [<-hrow] at hap;have hrl:row.toList=xs.take (i*6)++((Builtin.zeroCells z.cells k).toList++(Builtin.zeroCells z.cells (G-(cap+1))).toList):=by rw [hrow];simp []
   have hrs:G*6<=row.size:=by
    have h2:=congrArg List.length hrl;rw [List.length_append,List.length_append,hAl,Array.length_toList,Array.length_toList,Array.length_toList,size_zeroCells,size_zeroCells,Jcj] at h2;clear hcell Qa3 h1 hcl J5 hfit hdl hBl;omega
   obtain ⟨Mv,g1,s1,ho2⟩:=Qgh (w:=w.drew) (e:=44) (sz:=6) (n:=cap) (cap:=G) (i:=i) (news:=Qv x) hrl hAl hBl hi rfl Quy Jg5 hrs;obtain ⟨gs,hgs⟩: ∃gs,gs=w.heap.size:=⟨_,rfl⟩;have J1c:w.drew.heap.size=gs:=by rw [hgs];rfl
   rw [J1c] at g1 ho2;rw [<-hgs] at hap;obtain ⟨W1,hW1⟩: ∃W1,W1=w.drew.alloc (.cells row 44):=⟨_,rfl⟩;rw [<-hW1] at hap g1 ho2;have hk1:Kp No w W1:=by rw [hW1];exact (zK.drew).alloc _
   have hb1:W1.heap[gs]?=some (.cells row 44 (0,0)):=by rw [hW1,hgs];exact heap_alloc_new w.drew _
   have hgl:=Q7 hg;have hvl:=Q7 hvb;have hk2:=Fi gs (Qv x) (i*6) W1;obtain ⟨W2,hW2⟩: ∃W2,W2=W1.setCells gs (i*6) (Qv x):=⟨_,rfl⟩;rw [<-hW2] at hk2 g1 ho2;have hk3:=Fi gs (xs.drop (i*6)) ((i+1)*6) W2
   have hcpA: ∀ty dc,(Builtin.copy_ #[68,68] ty #[.slice (some ⟨gs,i*6,none⟩) (cap+1-i) dc, .slice (some ⟨vb,0,none⟩) 1 1]).run Tryz.prog W1= .ok (goInt ((1:Nat):Int)) W2:=λty dc=>by
    have hmn:Nat.min 1 (cap+1-i)=1:=Nat.min_eq_left (Nat.sub_pos_of_lt (Nat.lt_succ_of_le hi))
    have:=Gq (P:=Tryz.prog) W1 68 68 ty 44 6 gs (i*6) (cap+1-i) dc ⟨vb,0,none⟩ 1 1 (Qv x) Tryz.underlying68 Q5t (by rw [hmn];rfl)
     (λj v hj=>by rw [Z8,hk1.cell (p:=⟨vb,0+j,none⟩) hvl (λx=>x)];exact Qa3 j v hj) (cur:=row) (t:=44) hb1 (by rw [Zm];clear hcell Qa3 h1 hcl J5 hfit hdl hBl;omega) (Fu x)
    rw [this,hmn,hW2]
   have hcpB: ∀ty dc sc m,(Builtin.copy_ #[68,68] ty #[.slice (some ⟨gs,(i+1)*6,none⟩) (cap-i) dc, .slice (some ⟨g,off+i*6,none⟩) (cap-i) sc]).run Tryz.prog (W2.drewN m)= .ok (goInt ((cap-i:Nat):Int)) ((W2.setCells gs ((i+1)*6) (xs.drop (i*6))).drewN m):=λty dc sc m=>by
    have hmn:Nat.min (cap-i) (cap-i)=cap-i:=Nat.min_self _
    have:=Gq (P:=Tryz.prog) (W2.drewN m) 68 68 ty 44 6 gs ((i+1)*6) (cap-i) dc ⟨g,off+i*6,none⟩ (cap-i) sc (xs.drop (i*6)) Tryz.underlying68 Q5t (by rw [hmn,hBl])
     (λj v hj=>by
      rw [Z8,World.cell?_drewN,hk2.cell (p:=⟨g,off+i*6+j,none⟩) (hk1.lt hgl) (λe=>by have e:g=gs:=e;omega),hk1.cell (p:=⟨g,off+i*6+j,none⟩) hgl (λx=>x),Nat.add_assoc];rw [List.getElem?_drop] at hj;exact hcell _ v hj) (cur:=Mv) (t:=44) g1 (by rw [hBl];clear hcell Qa3 h1 hcl J5 hfit hdl hBl;omega) (λv hv=>h1 v (List.mem_of_mem_drop hv))
    rw [this,hmn,Uc]
   have hw1:=Ei cap hn;have hw2:=Ei i (Nat.le_trans hi hn);rw [Qqj hik] at hap;have d1:decide ((cap:Int)<((cap+1:Nat):Int))=true:=decide_eq_true (Int.ofNat_lt.2 (Nat.lt_succ_self _));have hb1':(i:Int)<=(cap:Int):=Int.ofNat_le.2 hi;have hb3:(i:Int)<=(cap:Int)+1:=by have:=Int.ofNat_le.2 hi;exact Int.le_trans this (Int.le_of_lt (Int.lt_succ _))
   have Jgi: ¬G=i:=λe=>absurd Quy (Nat.not_le.2 (by rw [e];exact Nat.lt_succ_of_le hi));have Jgj: ¬G=i+1:=λe=>absurd Quy (Nat.not_le.2 (by rw [e];exact Nat.succ_lt_succ hin2));have Kx:=zz hap;have Qhw:=zz hcpA;have Oz:=zz hcpB
   have Yf:Hid (∀m,Quf w (some ⟨g,off,none⟩) cap cap i xs (Qv x) (.returned (.slice (some ⟨gs,0,none⟩) (cap+1) G)) ((W2.setCells gs ((i+1)*6) (xs.drop (i*6))).drewN m)):=zz λm=>
    ⟨some ⟨gs,0,none⟩,G,rfl,ho2.drewN m,((((hk1.Qx (S:=One gs)).Q0 hk2).Q0 hk3).mono λj hj e=>absurd hj (by rw [show j=gs from e,hgs];exact Nat.lt_irrefl _)).drewN m, .inr ⟨gs,rfl,by rw [hgs];exact Nat.le_refl _⟩⟩
   clear hap hcpA hcpB hl hdl hBl hAl hk1 hk2 hk3 hvb hgv h1 hO hne hnil hblk hg hfit J5 hcell Qa3 hsrc hcl hrs hrl hrow ho2 g1 s1 hb1 hW1 hW2 hG hgs J1c hgl hvl hold hz hz0 hz1 hz3 Jcj hi0 hk hik hk0;go_enter Tryz.func192,Tryz.ntmps192
   go_upto_region 10 with (at_builtin;refine wpList_append_run rfl rfl rfl rfl Kx.out ?_)
   go_upto_region 11 with (refine wpList_copy_run rfl rfl rfl rfl (Qhw.out _ _) ?_)
   refine zE [0,0,0,0,0,0,0,0,2] [0,1,2,3,4,5,6,7,8] ?_;repeat (first|refine zA ?_|refine zB ?_|refine zC ?_)
   refine Q8 rfl rfl (λq=>?_);refine wpList_copy_run rfl rfl rfl rfl (Oz.out _ _ _ q) (wpList_nil ⟨rfl,trivial,?_⟩);refine Qa (λnq=>?_);go_wp2_with fail
   go_ret
   exact Yf.out _
end Go.Proofs.YtgnkmjeoaoongaaGreatDoor
