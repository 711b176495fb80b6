/-
  SLay0, SLays.
-/
import Derived.Test.YtgnkmjeoaoongaaGreatDoorXd2
set_option maxHeartbeats 400000
namespace Go.Proofs.YtgnkmjeoaoongaaGreatDoor
open Go.RowKit Go.Mer
theorem Dy {β:Type} {l:List (ByteArray×β)} (h:(l.map (·.1)).Nodup):l.Nodup:=by
 have h':=List.pairwise_map.1 h;exact h'.imp λhne e=>hne (congrArg (·.1) e)
theorem Fl {β:Type} {l l':List (ByteArray×β)} (h:(l.map (·.1)).Nodup) (h':(l'.map (·.1)).Nodup) (hg: ∀k,Qo l k=Qo l' k):l.Perm l':=by
 rw [List.perm_ext_iff_of_nodup (Dy h) (Dy h')];rintro ⟨k,v⟩;constructor
 ·intro hm;have:=Xj h hm;rw [hg] at this;exact Qw this
 ·intro hm;have:=Xj h' hm;rw [<-hg] at this;exact Qw this
theorem Xh {l:List (ByteArray×List Qf)} (hs:Je l):(l.map (·.1)).Nodup:=
 List.pairwise_map.2 (hs.imp λ{a b} h e=>by rw [e] at h;exact J5 _ h)
theorem Hi (cs:Z7) (k:ByteArray) (c:Ja):J3 (Qt cs k c)=Qt (J3 cs) k c.vs:=D8 Ja.vs cs k c
theorem D5 (cs:Z7) (k:ByteArray) (c:Ja):Y3 (Qt cs k c)=Qt (Y3 cs) k (Xg c.b):=D8 (λc:Ja=>Xg c.b) cs k c
theorem Hm {β:Type} {l:List (ByteArray×β)} (h:(l.map (·.1)).Nodup) (k:ByteArray) (c:β):((Qt l k c).map (·.1)).Nodup:=by
 unfold Qt;split
 ·have e:(l.map λp=>if p.1=k then (k,c) else p).map (·.1)=l.map (·.1):=by
   rw [List.map_map];refine List.map_congr_left λp _=>?_;show (if p.1=k then (k,c) else p).1=p.1
   split
   ·next h=>exact h.symm
   ·rfl
  rw [e];exact h
 ·next hk=>
  rw [List.map_append,List.nodup_append];refine ⟨h,by simp,λa ha b hb e=>?_⟩;rw [List.map_cons,List.map_nil,List.mem_singleton] at hb;have h2:b=k:=hb;exact hk (by rw [<-h2,<-e];exact ha)
theorem Q5t {cs:Z7} {keys:List (ByteArray×List Qf)} (hp:(J3 cs).Perm keys) (hn:(cs.map (·.1)).Nodup) (hs:Je keys) (k:ByteArray) (c:Ja):(J3 (Qt cs k c)).Perm (Jn keys k c.vs):=by
 refine Fl (by rw [Za];exact Hm hn k c) (Xh (Zs hs k c.vs)) λq=>?_;rw [Hi,Gi hs];by_cases h:k=q
 ·subst h;rw [if_pos rfl,D7]
 ·rw [if_neg h,K9 _ _ (λe=>h e.symm)];exact Zb hp (by rw [Za];exact hn) q
section
variable {w w':World} {s d l o m:Nat} {P:ByteArray} {st:J7} {cs:Z7} {ka:Option Addr} {kc:Nat} {K:List Qa} {k:ByteArray} {c c':Ja}
theorem Xn.other {t:TypeId} (ht:t≠44) (ht2:t≠5) (h:Xn t w cs) (hc:Qo cs k=some c) {p:ByteArray×Ja} (hp:p∈cs) (hpk:p.1≠k): ∀g,Qdo p.2 g-> ¬(g=c.b\/c.row.ownBlock=some g):=by
 have hmem:=Qw hc;obtain ⟨l1,l2,rfl,hn1⟩:=V3 hc
 have hp2:p∈l1\/p∈l2:=by
  rcases List.mem_append.1 hp with hp|hp
  ·exact .inl hp
  ·rcases List.mem_cons.1 hp with rfl|hp
   ·exact absurd rfl hpk
   ·exact .inr hp
 have Ql1:=h.each _ hmem;have Qld:=h.each p hp;have hb:=h.C0;have hr:=h.rows;simp only [List.map_append,List.map_cons] at hb;simp only [List.filterMap_append] at hr
 have hbne:p.2.b≠c.b:=λe=>by
  rw [List.nodup_append] at hb;rcases hp2 with hp2|hp2
  ·exact hb.2.2 _ (List.mem_map.2 ⟨p,hp2,rfl⟩) _ (List.mem_cons_self ..) e
  ·exact (List.nodup_cons.1 hb.2.1).1 (List.mem_map.2 ⟨p,hp2,e⟩)
 have J1u: ∀g,p.2.row.ownBlock=some g->c.row.ownBlock≠some g:=λg hg hg'=>by
  rw [List.filterMap_cons,show (k,c).2.row.ownBlock=some g from hg'] at hr;rw [List.nodup_append] at hr;rcases hp2 with hp2|hp2
  ·exact hr.2.2 _ (List.mem_filterMap.2 ⟨p,hp2,hg⟩) _ (List.mem_cons_self ..) rfl
  ·exact (List.nodup_cons.1 hr.2.1).1 (List.mem_filterMap.2 ⟨p,hp2,hg⟩)
 rintro g (hg|hg|⟨x,hx,hg⟩) (e|e)
 ·exact hbne (hg.symm.trans e)
 ·rw [hg] at e;obtain ⟨cur,Uu⟩:=Ql1.own.type _ e;exact Q7 Qld.cell Uu ht rfl
 ·rw [e] at hg;obtain ⟨cur,Uu⟩:=Qld.own.type _ hg;exact Q7 Uu Ql1.cell (λe=>ht e.symm) rfl
 ·exact J1u g hg e
 ·rw [e] at hg;obtain ⟨cur,Uu⟩:=Own.type (Qld.vals x hx) _ hg;exact Q7 Uu Ql1.cell (λe=>ht2 e.symm) rfl
 ·obtain ⟨cur,Uu⟩:=Own.type (Qld.vals x hx) _ hg;obtain ⟨cur',Q2f⟩:=Ql1.own.type _ e;exact Q7 Uu Q2f (by decide) rfl
theorem Xn.set {t:TypeId} (ht:t≠44) (ht2:t≠5) (h:Xn t w cs) (hc:Qo cs k=some c) (hb:c'.b=c.b) (hk:Kp (λg=>g=c.b\/c.row.ownBlock=some g) w w') (hok:Y7 t w' c') (hrow:c'.row.ownBlock=c.row.ownBlock\/ ∀g,c'.row.ownBlock=some g->w.heap.size<=g):Xn t w' (Qt cs k c'):=by
 have hoth: ∀p∈cs,p.1≠k->Y7 t w' p.2:=λp hp hpk=>(h.each p hp).keep hk λg hg hS=>h.other ht ht2 hc hp hpk g hg hS;have hlt:=h.lt;have hkeys:=h.keys;obtain ⟨l1,l2,rfl,hn1⟩:=V3 hc
 have hn2:k∉l2.map (·.1):=by
  rw [List.map_append,List.nodup_append] at hkeys;exact (List.nodup_cons.1 hkeys.2.1).1
 rw [Xb hkeys];have hr:=h.rows;simp only [List.filterMap_append] at hr;refine ⟨λp hp=>?_,by have:=h.C0;simpa [hb] using this,?_,by have:=h.keys;simpa using this⟩
 ·rcases List.mem_append.1 hp with hp|hp
  ·exact hoth p (List.mem_append_left _ hp) λe=>hn1 (e▸List.mem_map.2 ⟨p,hp,rfl⟩)
  ·rcases List.mem_cons.1 hp with rfl|hp
   ·exact hok
   ·exact hoth p (List.mem_append_right _ (List.mem_cons_of_mem _ hp)) λe=>hn2 (e▸List.mem_map.2 ⟨p,hp,rfl⟩)
 ·rcases hrow with hrow|hrow
  ·have:=h.rows;simp only [List.filterMap_append,List.filterMap_cons] at this⊢;rw [hrow];exact this
  ·cases hv:c'.row.ownBlock with
   |none=>
    simp only [List.filterMap_append,List.filterMap_cons,hv];cases hv2:c.row.ownBlock with
    |none=>simpa only [List.filterMap_cons,hv2] using hr
    |some g2=>
     simp only [List.filterMap_cons,hv2] at hr;rw [List.nodup_append] at hr⊢;exact ⟨hr.1,(List.nodup_cons.1 hr.2.1).2,λa ha b hb'=>hr.2.2 a ha b (List.mem_cons_of_mem _ hb')⟩
   |some g=>
    have hgs:=hrow g hv
    have hne: ∀p∈l1++(k,c)::l2,∀q,p.2.row.ownBlock=some q->q≠g:=λp hp q hq e=>by
     have:=hlt q ⟨p,hp, .inr (.inl hq)⟩;omega
    simp only [List.filterMap_append,List.filterMap_cons,hv] at hr⊢
    have hr2:(l1.filterMap (·.2.row.ownBlock)).Nodup/\(l2.filterMap (·.2.row.ownBlock)).Nodup/\ ∀a∈l1.filterMap (·.2.row.ownBlock),∀b∈l2.filterMap (·.2.row.ownBlock),a≠b:=by
     cases hv2:c.row.ownBlock with
     |none=>
      simp only [hv2] at hr;rw [List.nodup_append] at hr;exact hr
     |some g2=>
      simp only [hv2] at hr;rw [List.nodup_append] at hr;exact ⟨hr.1,(List.nodup_cons.1 hr.2.1).2,λa ha b hb'=>hr.2.2 a ha b (List.mem_cons_of_mem _ hb')⟩
    rw [List.nodup_append];refine ⟨hr2.1,List.nodup_cons.2 ⟨λhm=>?_,hr2.2.1⟩,λa ha b hb' e=>?_⟩
    ·obtain ⟨p,hp,Qr5⟩:=List.mem_filterMap.1 hm;exact hne p (by simp [hp]) _ Qr5 rfl
    ·subst e;rcases List.mem_cons.1 hb' with rfl|hb'
     ·obtain ⟨p,hp,Qr5⟩:=List.mem_filterMap.1 ha;exact hne p (by simp [hp]) _ Qr5 rfl
     ·exact hr2.2.2 a ha a hb' rfl
theorem Xn.add {t:TypeId} (h:Xn t w cs) (hk:k∉cs.map (·.1)) {S:Nat->Prop} (hkp:Kp S w w') (hS: ∀g,Ej cs g-> ¬S g) (hok:Y7 t w' c) (hb:w.heap.size<=c.b) (hr: ∀g,c.row.ownBlock=some g->w.heap.size<=g):Xn t w' (cs++[(k,c)]):=by
 refine ⟨λp hp=>?_,?_,?_,?_⟩
 ·rcases List.mem_append.1 hp with hp|hp
  ·exact (h.each p hp).keep hkp λg hg=>hS g ⟨p,hp,hg⟩
  ·rw [List.mem_singleton] at hp;subst hp;exact hok
 ·rw [List.map_append,List.nodup_append];refine ⟨h.C0,by simp,λa ha b hb' e=>?_⟩;rw [List.map_cons,List.map_nil,List.mem_singleton] at hb';obtain ⟨p,hp,rfl⟩:=List.mem_map.1 ha;have h1:=h.lt p.2.b ⟨p,hp, .inl rfl⟩;have h2:b=c.b:=hb';have h3:p.2.b=b:=e;omega
 ·rw [List.filterMap_append,List.nodup_append];refine ⟨h.rows,?_,λa ha b hb' e=>?_⟩
  ·cases hv:c.row.ownBlock<;>simp [hv]
  ·obtain ⟨p,hp,hpa⟩:=List.mem_filterMap.1 ha;obtain ⟨q,hq,Qle⟩:=List.mem_filterMap.1 hb';rw [List.mem_singleton] at hq;subst hq;have h1:=h.lt a ⟨p,hp, .inr (.inl hpa)⟩;have h2:=hr b Qle;omega
 ·rw [List.map_append,List.nodup_append];refine ⟨h.keys,by simp,λa ha b hb' e=>?_⟩;rw [List.map_cons,List.map_nil,List.mem_singleton] at hb';have h2:b=k:=hb';exact hk (by rw [<-h2,<-e];exact ha)
theorem Yt.Q2s (h:Yt w s d l P o st m cs ka kc K) {p:ByteArray×Ja} (hp:p∈cs): ∀g,Cp ka kc K g-> ¬(g=p.2.b\/p.2.row.ownBlock=some g):=by
 have hc:=h.Vl.each p hp;rintro g (hg|⟨x,hx,hg⟩) (e|e)
 ·rw [e] at hg;obtain ⟨cur,Uu⟩:=h.kept.own.type _ hg;exact Q7 Uu hc.cell (by decide) rfl
 ·obtain ⟨cur,Uu⟩:=h.kept.own.type _ hg;obtain ⟨cur',Q2f⟩:=hc.own.type _ e;exact Q7 Uu Q2f (by decide) rfl
 ·rw [e] at hg;obtain ⟨cur,Uu⟩:=Own.type (h.kept.vals x hx) _ hg;exact Q7 Uu hc.cell (by decide) rfl
 ·obtain ⟨cur,Uu⟩:=Own.type (h.kept.vals x hx) _ hg;obtain ⟨cur',Q2f⟩:=hc.own.type _ e;exact Q7 Uu Q2f (by decide) rfl
theorem Yt.Q5f (h:Yt w s d l P o st m cs ka kc K) {p:ByteArray×Ja} (hp:p∈cs):m≠p.2.b/\p.2.row.ownBlock≠some m:=by
 obtain ⟨es,ck,hm,_⟩:=h.map;have hc:=h.Vl.each p hp;refine ⟨λe=>?_,λe=>?_⟩
 ·exact Zc hc.cell hm e.symm
 ·obtain ⟨cur,Uu⟩:=hc.own.type m e;exact Zc Uu hm rfl
theorem Yt.Gt (h:Yt w s d l P o st m cs ka kc K) (hs:Je st.keys) (hc:Qo cs k=some c) (hb:c'.b=c.b) (hk:Kp (λg=>g=c.b\/c.row.ownBlock=some g) w w') (hok:Y7 203 w' c') (hrow:c'.row.ownBlock=c.row.ownBlock\/ ∀g,c'.row.ownBlock=some g->w.heap.size<=g):
  Yt w' s d l P o {st with keys:=Jn st.keys k c'.vs} m (Qt cs k c') ka kc K:=by
 have hmem:=Qw hc;have hsa:=h.G0;refine ⟨hk.get h.cell λhS=>?_,?_,h.Vl.set (by decide) (by decide) hc hb hk hok hrow,h.kept.keep hk λg hg hS=>h.Q2s hmem g hg hS,Q5t h.perm h.Vl.keys hs k c',h.Gn⟩
 ·exact hsa.1 ⟨_,hmem,hS.imp id λe=> .inl e⟩
 ·rw [D5]
  have e:Qt (Y3 cs) k (Xg c'.b)=Y3 cs:=by
   have hnd:((Y3 cs).map (·.1)).Nodup:=by rw [Ib];exact h.Vl.keys
   obtain ⟨l1,l2,he,_⟩:=V3 (show Qo (Y3 cs) k=some (Xg c.b) from by rw [V8,hc];rfl);rw [he] at hnd⊢;rw [hb,Xb hnd]
  rw [e];exact h.map.of_heap (hk.block m h.map.lt λhS=>hS.elim (h.Q5f hmem).1 (h.Q5f hmem).2)
theorem Yt.Qf4 (h:Yt w s d l P o st m cs ka kc K) (hs:Je st.keys) (hc:Qo cs k=none) (hk:Kp (Mer.One m) w w') (hm:Vi Value.string w' m (Qt (Y3 cs) k (Xg c.b))) (hok:Y7 203 w' c) (hb:w.heap.size<=c.b) (hr: ∀g,c.row.ownBlock=some g->w.heap.size<=g):
  Yt w' s d l P o {st with keys:=Jn st.keys k c.vs} m (Qt cs k c) ka kc K:=by
 have hkn:k∉cs.map (·.1):=Zw.1 hc;obtain ⟨es,ck,hm0,_⟩:=id h.map;have hg:Qt cs k c=cs++[(k,c)]:=Oa hkn;refine ⟨hk.get h.cell λe=>h.Af e,by rw [D5];exact hm,?_,?_,Q5t h.perm h.Vl.keys hs k c,h.Gn⟩
 ·rw [hg];refine h.Vl.add hkn hk (λg hf e=>?_) hok hb hr;have e:g=m:=e;rw [e] at hf;obtain ⟨p,hp,hf|hf|⟨x,hx,hf⟩⟩:=hf
  ·exact (h.Q5f hp).1 hf
  ·exact (h.Q5f hp).2 hf
  ·obtain ⟨cur,Uu⟩:=Own.type ((h.Vl.each p hp).vals x hx) _ hf;exact Zc Uu hm0 rfl
 ·refine h.kept.keep hk λg hf e=>?_;have e:g=m:=e;rw [e] at hf;rcases hf with hf|⟨x,hx,hf⟩
  ·obtain ⟨cur,Uu⟩:=h.kept.own.type _ hf;exact Zc Uu hm0 rfl
  ·obtain ⟨cur,Uu⟩:=Own.type (h.kept.vals x hx) _ hf;exact Zc Uu hm0 rfl
theorem Yt.setOf (h:Yt w s d l P o st m cs ka kc K) (h5:st.of.length=5) {i:Nat} (hi:i<5) (dn:Jt):
  Yt (((w.setCell ⟨s,10+i*3,none⟩ (.int .i64 dn.seq)).setCell ⟨s,10+i*3+1,none⟩ (.int .i64 dn.m)).setCell ⟨s,10+i*3+2,none⟩ (.int .i64 dn.c)) s d l P o {st with of:=st.of.set i dn} m cs ka kc K:=by
 refine h.turn ((((Kp.refl (Mer.One s) w).setCell (p:=⟨s,10+i*3,none⟩) (.inl (show Mer.One s s from rfl)) _).setCell (p:=⟨s,10+i*3+1,none⟩) (.inl (show Mer.One s s from rfl)) _).setCell (p:=⟨s,10+i*3+2,none⟩) (.inl (show Mer.One s s from rfl)) _) ?_ rfl rfl;have h9:=Qh (Qh (Qh h.cell (10+i*3) (.int .i64 dn.seq)) (10+i*3+1) (.int .i64 dn.m)) (10+i*3+2) (.int .i64 dn.c);rw [h9];have hs:=λj=>Ea (of:=st.of) (i:=i) (by omega) dn j;unfold Fq;simp only
 rcases K8 hi with rfl|rfl|rfl|rfl|rfl
 all_goals
  rw [hs 0,hs 1,hs 2,hs 3,hs 4];simp
theorem Yt.Mp (h:Yt w s d l P o st m cs ka kc K) {x:Qa} {a':Option Addr} {c2:Nat} (hk:Kp (λg=>(Value.slice ka K.length kc).ownBlock=some g) w w') (ho:Own w' 46 9 (.slice a' (K.length+1) c2) (K.length+1) (K.flatMap recC++recC x))
  (hb:(Value.slice a' (K.length+1) c2).ownBlock=(Value.slice ka K.length kc).ownBlock\/ ∃g,(Value.slice a' (K.length+1) c2).ownBlock=some g/\w.heap.size<=g) (hx:x.ok w):
  Yt (w'.setCell ⟨s,25,none⟩ (.slice a' (K.length+1) c2)) s d l P o {st with kept:=st.kept++[x.r]} m cs a' c2 (K++[x]):=by
 have hsa:=h.G0;have hkt: ∀g,(Value.slice ka K.length kc).ownBlock=some g-> ∃cur,w.heap[g]?=some (.cells cur 46 (0,0)):=λg hg=>h.kept.own.type g hg;obtain ⟨es,ck,hm0,_⟩:=id h.map;have hcell:=hk.get h.cell λhg=>hsa.2 (.inl hg);have hsl:=Q3 h.cell;have hs:Kp (Mer.One s) w' (w'.setCell ⟨s,25,none⟩ (.slice a' (K.length+1) c2)):=(Kp.refl (Mer.One s) w').setCell (p:=⟨s,25,none⟩) (.inl (show Mer.One s s from rfl)) _;have hall:Kp (λg=>g=s\/(Value.slice ka K.length kc).ownBlock=some g) w (w'.setCell ⟨s,25,none⟩ (.slice a' (K.length+1) c2)):=(hk.mono λ_ _ e=> .inr e).trans hs λ_ _ e=> .inl e
 have hnew: ∀g,(Value.slice a' (K.length+1) c2).ownBlock=some g->g≠s:=λg hg e=>by
  rcases hb with hb|⟨g',hb,hg'⟩
  ·exact hsa.2 (.inl (by rw [<-hb,hg,e]))
  ·rw [hb] at hg;injection hg with hg;omega
 refine ⟨?_,h.map.of_heap (hall.block m h.map.lt λhS=>?_),h.Vl.keep hall λg hf hS=>?_,⟨?_,λy hy=>?_⟩,h.perm,by rw [List.map_append,h.Gn];rfl⟩
 ·have:=Qh hcell 25 (.slice a' (K.length+1) c2);rw [List.length_append,List.length_singleton];simpa [Fq] using this
 ·rcases hS with hS|hS
  ·exact h.Af hS.symm
  ·obtain ⟨cur,Uu⟩:=hkt _ hS;exact Zc Uu hm0 rfl
 ·rcases hS with hS|hS
  ·exact hsa.1 (hS▸hf)
  ·obtain ⟨cur,Uu⟩:=hkt _ hS;obtain ⟨p,hp,hf|hf|⟨y,hy,hf⟩⟩:=hf
   ·exact h.Q2s hp g (.inl hS) (.inl hf)
   ·exact h.Q2s hp g (.inl hS) (.inr hf)
   ·obtain ⟨cur',Q2f⟩:=Own.type ((h.Vl.each p hp).vals y hy) _ hf;exact Q7 Uu Q2f (by decide) rfl
 ·rw [List.length_append,List.length_singleton,List.flatMap_append,List.flatMap_cons,List.flatMap_nil,List.append_nil];exact ho.keep hs λg hg e=>hnew g hg e
 ·have hval:y.ok w:=by
   rcases List.mem_append.1 hy with hy|hy
   ·exact h.kept.vals y hy
   ·rw [List.mem_singleton] at hy;rw [hy];exact hx
  exact Qd.ok.apart hval hall λg hg cur hcur=>by
   rcases hg with rfl|hg
   ·exact Q7 hcur h.cell (by decide) rfl
   ·obtain ⟨cur',Q2f⟩:=hkt _ hg;exact Q7 hcur Q2f (by decide) rfl
end
theorem Fz (o:Nat): ∀(L:List Qx) (st:J7),(Jf o st L).of=Ie st.of L/\(Jf o st L).mm=st.mm/\(Jf o st L).mc=st.mc/\(Jf o st L).Xu=st.Xu/\(Jf o st L).n=st.n/\(Jf o st L).dead=st.dead
 |[],_=>⟨rfl,rfl,rfl,rfl,rfl,rfl⟩
 |r::L,st=>Fz o L (Gq o st r)
theorem Nl (o:Nat) (L:List Qx) (r:Qx) (st:J7):Jf o st (L++[r])=Gq o (Jf o st L) r:=by
 unfold Jf;rw [List.foldl_append];rfl
theorem Ix (a:Option Addr) (c:Nat) (xs:List UInt8) (B:Nat) (w:World) (hr:Rd w B a (u8s xs)) (hm:xs.length<=140737488355328):
  Calls Tryz.prog 82 #[.slice a xs.length c] w λe w'=> ∃v,e= .returned v/\Own w' 5 1 v xs.length (u8s xs)/\Kp No w w'/\ ∀g,v.ownBlock=some g->w.heap.size<=g:=by
 obtain ⟨i0,hi,hz0,hz1,hz2⟩:=info_parts infoByte;cases a with
 |none=>
  have hx:xs=[]:=by
   rcases Nat.eq_zero_or_pos xs.length with h|h
   ·exact List.eq_nil_of_length_eq_zero h
   ·obtain ⟨g,off,h1,_⟩:=hr (by rw [Zz];exact h);cases h1
  subst hx;have hq:=λw=>Lib.run_eql_slice_nil (P:=Tryz.prog) w 42 5 none 0 c 0 0 Tryz.underlying42;simp only [List.length_nil];go_enter Tryz.func82,Tryz.ntmps82
  go_wp2_with fail
  go_ret
  exact ⟨_,rfl,Own.nil _ _ _,Kp.refl _ _,λg h=>by simp [Value.ownBlock] at h⟩
 |some ad=>
  have hq:=λw=>Lib.run_eql_slice_nil (P:=Tryz.prog) w 42 5 (some ad) xs.length c 0 0 Tryz.underlying42;have hal:Kp No w (w.alloc (.cells #[] 5)):=zK.alloc _;have hown0:Own (w.alloc (.cells #[] 5)) 5 1 (.slice (some ⟨w.heap.size,0,none⟩) 0 0) 0 []:=Own.made w 5 1 #[] 0 0 (Nat.le_refl _) (by simp [maxLen]) (by simp) rfl
  have hsrc:Mer.Src (w.alloc (.cells #[] 5)) 1 (.slice (some ad) xs.length c) xs.length (u8s xs):=⟨by simp [Zz],some ad,c,rfl,λhx=>by
   obtain ⟨g,off,h1,h2,h3,h4⟩:=hr hx;exact ⟨g,off,h1,by simp;omega,Nat.le_refl _,λj u hu=>(hal.cell (p:=⟨g,off+j,none⟩) (by show g<_;omega) (λx=>x)).trans (h4 j u hu)⟩⟩
  obtain ⟨v1,w1,hrun,hown,hkp,hblk⟩:=Jk (P:=Tryz.prog) (w:=w.alloc (.cells #[] 5)) 42 42 42 5 i0 (.int .u8 0) 1 1 Tryz.underlying42 ⟨_,Tryz.underlying42⟩ hi hz0 hz1 hz2 rfl
   (.slice (some ⟨w.heap.size,0,none⟩) 0 0) 0 [] hown0 (.slice (some ad) xs.length c) xs.length (u8s xs) hsrc (Kk xs) (by simp only [maxLen];omega) (by omega)
  have HO:=zz hown;have HK:=zz hkp;have HB:=zz hblk;have HR:=zz hrun;clear hown hkp hblk hown0 hsrc hz0 hz1 hz2 hi hrun;go_enter Tryz.func82,Tryz.ntmps82
  go_wp2_with (at_builtin;refine wpList_append_run rfl rfl rfl rfl HR.out ?_)
  go_ret
  refine ⟨_,rfl,by simpa using HO.out,hal.trans HK.out (λk hk h=>by simp [Value.ownBlock] at h;omega),λg hg=>?_⟩;rcases HB.out with h|⟨g',h,h'⟩
  ·have hg2:v1.ownBlock=some g:=hg;rw [h] at hg2;simp [Value.ownBlock] at hg2
   omega
  ·have hg2:v1.ownBlock=some g:=hg;rw [h] at hg2;injection hg2 with hg2;simp at h'
   omega
def Qet (w:World) (s d l:Nat) (P:ByteArray) (o:Nat) (st:J7) (m:Nat) (cs:Z7) (ka:Option Addr) (kc:Nat) (K:List Qa) (L:List Qx) (B:Nat) (k:Nat) (wr:World):Prop:=
 ∃cs' I8 M3 K',Yt wr s d l P o (Jf o st (L.take k)) m cs' I8 M3 K'/\(∀g,X6 s m cs' I8 M3 K' g->X6 s m cs ka kc K g\/w.heap.size<=g)/\Kp (X6 s m cs ka kc K) w wr/\(∀p∈cs',p.2.R.length<=B+k)/\K'.length<=B+k
theorem Q5h {mm mc:Int}: ∀(A B:List Qx) (of:List Jt),X5 mm mc of (A++B)=(X5 mm mc of A&&X5 mm mc (Ie of A) B)
 |[],B,of=>by simp [X5,Ie]
 |r::A,B,of=>by
  rw [List.cons_append,X5,X5,Q5h A B,Bool.and_assoc];rfl
theorem Q58 {o:Nat} {st:J7} (hi:Inv o st) {L:List Qx} (hr: ∀r∈L,Jv r=true) (hg:X5 st.mm st.mc st.of L=true) {k:Nat} {r:Qx} (hk:L[k]?=some r):
  Inv o (Jf o st (L.take k))/\F7 st.mm st.mc (Jf o st (L.take k)).of r=true:=by
 have hkl:=(List.getElem?_eq_some_iff.1 hk).1;have he:=(List.getElem?_eq_some_iff.1 hk).2
 have hsp:L=L.take k++(r::L.drop (k+1)):=by
  rw [<-he,<-List.drop_eq_getElem_cons hkl,List.take_append_drop]
 rw [hsp,Q5h,X5,Bool.and_eq_true,Bool.and_eq_true] at hg;refine ⟨Q51 _ hi (λx hx=>hr x (List.mem_of_mem_take hx)) hg.1,?_⟩;rw [(Fz o _ st).1];exact hg.2.1
theorem Q4a {w:World} {cs:Z7} {k:ByteArray} {c c':Ja} (hc:Qo cs k=some c) (hn:(cs.map (·.1)).Nodup) (hb:c'.b=c.b) (hrow:c'.row.ownBlock=c.row.ownBlock\/ ∀g,c'.row.ownBlock=some g->w.heap.size<=g) (hv: ∀y∈c'.R,y∈c.R\/ ∀g,y.sl.ownBlock=some g->w.heap.size<=g):
  ∀g,Ej (Qt cs k c') g->Ej cs g\/w.heap.size<=g:=by
 have hmem:=Qw hc;obtain ⟨l1,l2,rfl,_⟩:=V3 hc;rw [Xb hn];rintro g ⟨p,hp,hf⟩;rcases List.mem_append.1 hp with hp|hp
 ·exact .inl ⟨p,List.mem_append_left _ hp,hf⟩
 ·rcases List.mem_cons.1 hp with rfl|hp
  ·rcases hf with hf|hf|⟨y,hy,hf⟩
   ·exact .inl ⟨_,hmem, .inl (hf.trans hb)⟩
   ·rcases hrow with h|h
    ·exact .inl ⟨_,hmem, .inr (.inl (h▸hf))⟩
    ·exact .inr (h g hf)
   ·rcases hv y hy with h|h
    ·exact .inl ⟨_,hmem, .inr (.inr ⟨y,h,hf⟩)⟩
    ·exact .inr (h g hf)
  ·exact .inl ⟨p,List.mem_append_right _ (List.mem_cons_of_mem _ hp),hf⟩
theorem Fv {cs:Z7} {k:ByteArray} {c':Ja} {Q:Ja->Prop} (h: ∀p∈cs,Q p.2) (hc:Q c'): ∀p∈Qt cs k c',Q p.2:=by
 intro p hp;unfold Qt at hp;split at hp
 ·obtain ⟨q,hq,rfl⟩:=List.mem_map.1 hp;split
  ·exact hc
  ·exact h q hq
 ·rcases List.mem_append.1 hp with hp|hp
  ·exact h p hp
  ·rw [List.mem_singleton] at hp;rw [hp];exact hc
theorem Yt.congr {w:World} {s d l o m:Nat} {P:ByteArray} {st st':J7} {cs:Z7} {ka:Option Addr} {kc:Nat} {K:List Qa} (h:Yt w s d l P o st m cs ka kc K) (hp:st.keys.Perm st'.keys)
  (e1:st'.Xu=st.Xu) (e2:st'.n=st.n) (e3:st'.dead=st.dead) (e4:st'.mm=st.mm) (e5:st'.mc=st.mc) (e6:st'.of=st.of) (e7:st'.kept=st.kept):Yt w s d l P o st' m cs ka kc K:=
 ⟨by have:=h.cell;unfold Fq at this⊢;rw [e1,e2,e3,e4,e5,e6];exact this,h.map,h.Vl,h.kept,h.perm.trans hp,by rw [e7];exact h.Gn⟩
theorem Q8r {l:List (ByteArray×List Qf)} (hs:Je l) (k:ByteArray) (a c:List Qf):(Jn (Jn l k a) k c).Perm (Jn l k c):=by
 refine Fl (Xh (Zs (Zs hs k a) k c)) (Xh (Zs hs k c)) λq=>?_;rw [Gi (Zs hs k a),Gi hs,Gi hs];split
 ·rfl
 ·rfl
end Go.Proofs.YtgnkmjeoaoongaaGreatDoor
