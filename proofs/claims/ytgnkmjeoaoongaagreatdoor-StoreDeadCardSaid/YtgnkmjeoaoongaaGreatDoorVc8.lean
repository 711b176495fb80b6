/- store -/
import Derived.Test.YtgnkmjeoaoongaaGreatDoorVc4
import Derived.Test.YtgnkmjeoaoongaaGreatDoorVc6
set_option maxHeartbeats 400000
namespace Go.Proofs.YtgnkmjeoaoongaaGreatDoor
open Go.RowKit Go.Mer
section
variable {β:Type}
theorem Y6 (l:List (ByteArray×β)) {k y:ByteArray} (v:β) (h:y≠k):Qs (Jb l k v) y=Qs l y:=by
 unfold Jb;split
 ·induction l with
  |nil=>rfl
  |cons p l ih=>
   have ih':Qs (l.map λp=>if p.1=k then (k,v) else p) y=Qs l y:=by
    by_cases hk:k∈l.map (·.1)
    ·exact ih hk
    ·congr 1
     conv=>rhs;rw [<-List.map_id l]
     refine List.map_congr_left λq hq=>?_;rw [if_neg λe=>hk (List.mem_map.2 ⟨q,hq,e⟩)];rfl
   unfold Qs at ih'⊢;rw [List.map_cons,List.find?_cons,List.find?_cons];by_cases hp:p.1=k
   ·rw [if_pos hp];have e1:decide (k=y)=false:=decide_eq_false (λe=>h e.symm);have e2:decide (p.1=y)=false:=decide_eq_false (λe=>h (by rw [<-e,hp]));simp only [e1,e2];exact ih'
   ·rw [if_neg hp];cases hd:decide (p.1=y)
    ·exact ih'
    ·rfl
 ·unfold Qs;rw [List.find?_append];cases hf:l.find? λp=>decide (p.1=y) with
  |some p=>rfl
  |none=>
   have e1:decide (k=y)=false:=decide_eq_false (λe=>h e.symm);simp [e1]
theorem Y7 {l:List (ByteArray×β)} (k y:ByteArray) (v:β):Qs (Jb l k v) y=if y=k then some v else Qs l y:=by
 split
 ·next h=>rw [h];exact C6 l k v
 ·next h=>exact Y6 l v h
end
theorem Mx {β:Type} {l:List (ByteArray×β)} {k:ByteArray} {v:β} (h:(l.map (·.1)).Nodup):((Jb l k v).map (·.1)).Nodup:=by
 unfold Jb;split
 ·have:(l.map λp=>if p.1=k then (k,v) else p).map (·.1)=l.map (·.1):=by
   rw [List.map_map];refine List.map_congr_left λp _=>?_;simp only [Function.comp_def];split
   ·next h=>exact h.symm
   ·rfl
  rw [this];exact h
 ·next hk=>
  rw [List.map_append,List.nodup_append];refine ⟨h,by simp,λa ha b hb=>?_⟩;simp only [List.map_cons,List.map_nil,List.mem_singleton] at hb;rintro rfl;exact hk (hb▸ha)
theorem E5 {β:Type} {l:List (ByteArray×β)} {k:ByteArray} {v:β} {p:ByteArray×β} (h:p∈Jb l k v):p.1=k\/ ∃q∈l,q.1=p.1:=by
 unfold Jb at h;split at h
 ·obtain ⟨q,hq,rfl⟩:=List.mem_map.1 h;split
  ·exact .inl rfl
  ·exact .inr ⟨q,hq,rfl⟩
 ·rcases List.mem_append.1 h with h|h
  ·exact .inr ⟨p,h,rfl⟩
  ·obtain rfl:=List.mem_singleton.1 h;exact .inl rfl
theorem Ae {l:Jl} {k:ByteArray} {v:Fc} (h:Xs l) (hk:Jq k=true):Xs (Jb l k v):=λp hp=>by
 rcases E5 hp with e|⟨q,hq,e⟩
 ·rw [e];exact hk
 ·rw [<-e];exact h q hq
theorem Qma {l:Jl} {x:ByteArray} {c:Fc} (h:Xs l) (hc:Qs l x=some c):Jq x=true:=h _ (Jc hc)
theorem Qk5 {l:Jl} {x:ByteArray} (h:x∈l.map (·.1)): ∃c,Qs l x=some c:=by
 cases hg:Qs l x with
 |none=>exact absurd h (Z5.1 hg)
 |some c=>exact ⟨c,rfl⟩
theorem Qwp {l:Jl} {x:ByteArray} {c:Fc} (h:Qs l x=some c):(Oj l x).1=c.data:=by unfold Oj;rw [h]
theorem Qe8 {l:Jl} {x:ByteArray} (h:Qs l x=none):(Oj l x).1=[]:=by unfold Oj;rw [h]
structure Qi8 (s:Qz):Prop where
 Jo:s.Jo=none
 nodup:(s.files.map (·.1)).Nodup
 ok:Xs s.files
theorem Q38 {s:Qz} {x:ByteArray} {c:Int} {fs:Jl} (hf:s.Jo=none) (hx:Jq x=true):five s [x] c fs=if c=0 then (0,{s with files:=fs}) else (c,s):=by
 unfold five;rw [hf,if_neg (by simp),if_pos (by simp [hx])];obtain ⟨r,f,l⟩:=s;simp only at hf
 subst hf;rfl
theorem Qre {s:Qz} (h:Qi8 s) {x:ByteArray} {c:Fc} (hc:Qs s.files x=some c):Da s x=(0,{s with files:=Jb s.files x ⟨c.data,c.data.length⟩})/\Qi8 {s with files:=Jb s.files x ⟨c.data,c.data.length⟩}:=by
 refine ⟨?_,h.Jo,Mx h.nodup,Ae h.ok (Qma h.ok hc)⟩;unfold Da Uw Xj;rw [hc,if_neg (by simp),Q38 h.Jo (Qma h.ok hc),if_pos rfl]
theorem Ly {P:ByteArray} {m n:Nat} (h:X7 P m=X7 P n):m=n:=by
 unfold X7 at h;have:=congrArg (λx:ByteArray=>x.data.toList) h;exact Qga (p:=P.data.toList) (by simpa using this)
theorem Nh {P:ByteArray} {n:Nat} (h:n<100000000):V5 P (X7 P n)=true:=by
 unfold V5 X7;simp only
 rw [Qcd _ h];rfl
theorem Me {β:Type} {l:List (ByteArray×β)} (h:(l.map (·.1)).Nodup):l.Nodup:=by
 have h':=List.pairwise_map.1 h;exact h'.imp λhne e=>hne (congrArg (·.1) e)
theorem Io {β:Type} {l l':List (ByteArray×β)} (h:(l.map (·.1)).Nodup) (h':(l'.map (·.1)).Nodup) (hg: ∀k,Qs l k=Qs l' k):l.Perm l':=by
 rw [List.perm_ext_iff_of_nodup (Me h) (Me h')];rintro ⟨k,v⟩;constructor
 ·intro hm;have:=Xc h hm;rw [hg] at this;exact Jc this
 ·intro hm;have:=Xc h' hm;rw [<-hg] at this;exact Jc this
theorem Vw {l:List (ByteArray×List Qo)} (hs:Yy l):(l.map (·.1)).Nodup:=
 List.pairwise_map.2 (hs.imp λ{a b} h e=>by rw [e] at h;exact Jr _ h)
theorem Q7u (cs:Zn) (k:ByteArray) (c:Zs):Jp (Jb cs k c)=Jb (Jp cs) k c.vs:=Nn Zs.vs cs k c
theorem Q34 (cs:Zn) (k:ByteArray) (c:Zs):Vr (Jb cs k c)=Jb (Vr cs) k (Vk c.b):=Nn (λc:Zs=>Vk c.b) cs k c
theorem Q8c {β:Type} {l:List (ByteArray×β)} (h:(l.map (·.1)).Nodup) (k:ByteArray) (c:β):((Jb l k c).map (·.1)).Nodup:=by
 unfold Jb;split
 ·have e:(l.map λp=>if p.1=k then (k,c) else p).map (·.1)=l.map (·.1):=by
   rw [List.map_map];refine List.map_congr_left λp _=>?_;show (if p.1=k then (k,c) else p).1=p.1
   split
   ·next h=>exact h.symm
   ·rfl
  rw [e];exact h
 ·next hk=>
  rw [List.map_append,List.nodup_append];refine ⟨h,by simp,λa ha b hb e=>?_⟩;rw [List.map_cons,List.map_nil,List.mem_singleton] at hb;have h2:b=k:=hb;exact hk (by rw [<-h2,<-e];exact ha)
theorem Q8j {cs:Zn} {keys:List (ByteArray×List Qo)} (hp:(Jp cs).Perm keys) (hn:(cs.map (·.1)).Nodup) (hs:Yy keys) (k:ByteArray) (c:Zs):(Jp (Jb cs k c)).Perm (Z3 keys k c.vs):=by
 refine Io (by rw [Vu];exact Q8c hn k c) (Vw (Yc hs k c.vs)) λq=>?_;rw [Q7u,Nk hs];by_cases h:k=q
 ·subst h;rw [if_pos rfl,C6]
 ·rw [if_neg h,Y6 _ _ (λe=>h e.symm)];exact Xv hp (by rw [Vu];exact hn) q
section
variable {w w':World} {s d l o m:Nat} {P:ByteArray} {st:Ja} {cs:Zn} {ka:Option Addr} {kc:Nat} {K:List Qe} {k:ByteArray} {c c':Zs}
theorem U1.other {t:TypeId} (ht:t≠44) (ht2:t≠5) (h:U1 t w cs) (hc:Qs cs k=some c) {p:ByteArray×Zs} (hp:p∈cs) (hpk:p.1≠k): ∀g,Qrx p.2 g-> ¬(g=c.b\/c.row.ownBlock=some g):=by
 have hmem:=Jc hc;obtain ⟨l1,l2,rfl,hn1⟩:=Uq hc
 have hp2:p∈l1\/p∈l2:=by
  rcases List.mem_append.1 hp with hp|hp
  ·exact .inl hp
  ·rcases List.mem_cons.1 hp with rfl|hp
   ·exact absurd rfl hpk
   ·exact .inr hp
 have Qpy:=h.each _ hmem;have Qq8:=h.each p hp;have hb:=h.Q00;have hr:=h.rows;simp only [List.map_append,List.map_cons] at hb;simp only [List.filterMap_append] at hr
 have hbne:p.2.b≠c.b:=λe=>by
  rw [List.nodup_append] at hb;rcases hp2 with hp2|hp2
  ·exact hb.2.2 _ (List.mem_map.2 ⟨p,hp2,rfl⟩) _ (List.mem_cons_self ..) e
  ·exact (List.nodup_cons.1 hb.2.1).1 (List.mem_map.2 ⟨p,hp2,e⟩)
 have J8d: ∀g,p.2.row.ownBlock=some g->c.row.ownBlock≠some g:=λg hg hg'=>by
  rw [List.filterMap_cons,show (k,c).2.row.ownBlock=some g from hg'] at hr;rw [List.nodup_append] at hr;rcases hp2 with hp2|hp2
  ·exact hr.2.2 _ (List.mem_filterMap.2 ⟨p,hp2,hg⟩) _ (List.mem_cons_self ..) rfl
  ·exact (List.nodup_cons.1 hr.2.1).1 (List.mem_filterMap.2 ⟨p,hp2,hg⟩)
 rintro g (hg|hg|⟨x,hx,hg⟩) (e|e)
 ·exact hbne (hg.symm.trans e)
 ·rw [hg] at e;obtain ⟨cur,E2⟩:=Qpy.own.type _ e;exact Qd Qq8.cell E2 ht rfl
 ·rw [e] at hg;obtain ⟨cur,E2⟩:=Qq8.own.type _ hg;exact Qd E2 Qpy.cell (λe=>ht e.symm) rfl
 ·exact J8d g hg e
 ·rw [e] at hg;obtain ⟨cur,E2⟩:=Own.type (Qq8.vals x hx) _ hg;exact Qd E2 Qpy.cell (λe=>ht2 e.symm) rfl
 ·obtain ⟨cur,E2⟩:=Own.type (Qq8.vals x hx) _ hg;obtain ⟨cur',C9⟩:=Qpy.own.type _ e;exact Qd E2 C9 (by decide) rfl
theorem U1.set {t:TypeId} (ht:t≠44) (ht2:t≠5) (h:U1 t w cs) (hc:Qs cs k=some c) (hb:c'.b=c.b) (hk:Kp (λg=>g=c.b\/c.row.ownBlock=some g) w w') (hok:Xr t w' c') (hrow:c'.row.ownBlock=c.row.ownBlock\/ ∀g,c'.row.ownBlock=some g->w.heap.size<=g):U1 t w' (Jb cs k c'):=by
 have hoth: ∀p∈cs,p.1≠k->Xr t w' p.2:=λp hp hpk=>(h.each p hp).keep hk λg hg hS=>h.other ht ht2 hc hp hpk g hg hS;have hlt:=h.lt;have hkeys:=h.keys;obtain ⟨l1,l2,rfl,hn1⟩:=Uq hc
 have hn2:k∉l2.map (·.1):=by
  rw [List.map_append,List.nodup_append] at hkeys;exact (List.nodup_cons.1 hkeys.2.1).1
 rw [Vi hkeys];have hr:=h.rows;simp only [List.filterMap_append] at hr;refine ⟨λp hp=>?_,by have:=h.Q00;simpa [hb] using this,?_,by have:=h.keys;simpa using this⟩
 ·rcases List.mem_append.1 hp with hp|hp
  ·exact hoth p (List.mem_append_left _ hp) λe=>hn1 (e▸List.mem_map.2 ⟨p,hp,rfl⟩)
  ·rcases List.mem_cons.1 hp with rfl|hp
   ·exact hok
   ·exact hoth p (List.mem_append_right _ (List.mem_cons_of_mem _ hp)) λe=>hn2 (e▸List.mem_map.2 ⟨p,hp,rfl⟩)
 ·rcases hrow with hrow|hrow
  ·have:=h.rows;simp only [List.filterMap_append,List.filterMap_cons] at this⊢;rw [hrow];exact this
  ·cases hv:c'.row.ownBlock with
   |none=>
    simp only [List.filterMap_append,List.filterMap_cons,hv];cases hv2:c.row.ownBlock with
    |none=>simpa only [List.filterMap_cons,hv2] using hr
    |some g2=>
     simp only [List.filterMap_cons,hv2] at hr;rw [List.nodup_append] at hr⊢;exact ⟨hr.1,(List.nodup_cons.1 hr.2.1).2,λa ha b hb'=>hr.2.2 a ha b (List.mem_cons_of_mem _ hb')⟩
   |some g=>
    have hgs:=hrow g hv
    have hne: ∀p∈l1++(k,c)::l2,∀q,p.2.row.ownBlock=some q->q≠g:=λp hp q hq e=>by
     have:=hlt q ⟨p,hp, .inr (.inl hq)⟩;omega
    simp only [List.filterMap_append,List.filterMap_cons,hv] at hr⊢
    have hr2:(l1.filterMap (·.2.row.ownBlock)).Nodup/\(l2.filterMap (·.2.row.ownBlock)).Nodup/\ ∀a∈l1.filterMap (·.2.row.ownBlock),∀b∈l2.filterMap (·.2.row.ownBlock),a≠b:=by
     cases hv2:c.row.ownBlock with
     |none=>
      simp only [hv2] at hr;rw [List.nodup_append] at hr;exact hr
     |some g2=>
      simp only [hv2] at hr;rw [List.nodup_append] at hr;exact ⟨hr.1,(List.nodup_cons.1 hr.2.1).2,λa ha b hb'=>hr.2.2 a ha b (List.mem_cons_of_mem _ hb')⟩
    rw [List.nodup_append];refine ⟨hr2.1,List.nodup_cons.2 ⟨λhm=>?_,hr2.2.1⟩,λa ha b hb' e=>?_⟩
    ·obtain ⟨p,hp,Qvy⟩:=List.mem_filterMap.1 hm;exact hne p (by simp [hp]) _ Qvy rfl
    ·subst e;rcases List.mem_cons.1 hb' with rfl|hb'
     ·obtain ⟨p,hp,Qvy⟩:=List.mem_filterMap.1 ha;exact hne p (by simp [hp]) _ Qvy rfl
     ·exact hr2.2.2 a ha a hb' rfl
theorem U1.add {t:TypeId} (h:U1 t w cs) (hk:k∉cs.map (·.1)) {S:Nat->Prop} (hkp:Kp S w w') (hS: ∀g,K6 cs g-> ¬S g) (hok:Xr t w' c) (hb:w.heap.size<=c.b) (hr: ∀g,c.row.ownBlock=some g->w.heap.size<=g):U1 t w' (cs++[(k,c)]):=by
 refine ⟨λp hp=>?_,?_,?_,?_⟩
 ·rcases List.mem_append.1 hp with hp|hp
  ·exact (h.each p hp).keep hkp λg hg=>hS g ⟨p,hp,hg⟩
  ·rw [List.mem_singleton] at hp;subst hp;exact hok
 ·rw [List.map_append,List.nodup_append];refine ⟨h.Q00,by simp,λa ha b hb' e=>?_⟩;rw [List.map_cons,List.map_nil,List.mem_singleton] at hb';obtain ⟨p,hp,rfl⟩:=List.mem_map.1 ha;have h1:=h.lt p.2.b ⟨p,hp, .inl rfl⟩;have h2:b=c.b:=hb';have h3:p.2.b=b:=e;omega
 ·rw [List.filterMap_append,List.nodup_append];refine ⟨h.rows,?_,λa ha b hb' e=>?_⟩
  ·cases hv:c.row.ownBlock<;>simp [hv]
  ·obtain ⟨p,hp,hpa⟩:=List.mem_filterMap.1 ha;obtain ⟨q,hq,Qod⟩:=List.mem_filterMap.1 hb';rw [List.mem_singleton] at hq;subst hq;have h1:=h.lt a ⟨p,hp, .inr (.inl hpa)⟩;have h2:=hr b Qod;omega
 ·rw [List.map_append,List.nodup_append];refine ⟨h.keys,by simp,λa ha b hb' e=>?_⟩;rw [List.map_cons,List.map_nil,List.mem_singleton] at hb';have h2:b=k:=hb';exact hk (by rw [<-h2,<-e];exact ha)
theorem X6.Ig (h:X6 w s d l P o st m cs ka kc K) {p:ByteArray×Zs} (hp:p∈cs): ∀g,Au ka kc K g-> ¬(g=p.2.b\/p.2.row.ownBlock=some g):=by
 have hc:=h.Fx.each p hp;rintro g (hg|⟨x,hx,hg⟩) (e|e)
 ·rw [e] at hg;obtain ⟨cur,E2⟩:=h.kept.own.type _ hg;exact Qd E2 hc.cell (by decide) rfl
 ·obtain ⟨cur,E2⟩:=h.kept.own.type _ hg;obtain ⟨cur',C9⟩:=hc.own.type _ e;exact Qd E2 C9 (by decide) rfl
 ·rw [e] at hg;obtain ⟨cur,E2⟩:=Own.type (h.kept.vals x hx) _ hg;exact Qd E2 hc.cell (by decide) rfl
 ·obtain ⟨cur,E2⟩:=Own.type (h.kept.vals x hx) _ hg;obtain ⟨cur',C9⟩:=hc.own.type _ e;exact Qd E2 C9 (by decide) rfl
theorem X6.Qg7 (h:X6 w s d l P o st m cs ka kc K) {p:ByteArray×Zs} (hp:p∈cs):m≠p.2.b/\p.2.row.ownBlock≠some m:=by
 obtain ⟨es,ck,hm,_⟩:=h.map;have hc:=h.Fx.each p hp;refine ⟨λe=>?_,λe=>?_⟩
 ·exact Xz hc.cell hm e.symm
 ·obtain ⟨cur,E2⟩:=hc.own.type m e;exact Xz E2 hm rfl
theorem X6.Iz (h:X6 w s d l P o st m cs ka kc K) (hs:Yy st.keys) (hc:Qs cs k=some c) (hb:c'.b=c.b) (hk:Kp (λg=>g=c.b\/c.row.ownBlock=some g) w w') (hok:Xr 203 w' c') (hrow:c'.row.ownBlock=c.row.ownBlock\/ ∀g,c'.row.ownBlock=some g->w.heap.size<=g):
  X6 w' s d l P o {st with keys:=Z3 st.keys k c'.vs} m (Jb cs k c') ka kc K:=by
 have hmem:=Jc hc;have hsa:=h.F7;refine ⟨hk.get h.cell λhS=>?_,?_,h.Fx.set (by decide) (by decide) hc hb hk hok hrow,h.kept.keep hk λg hg hS=>h.Ig hmem g hg hS,Q8j h.perm h.Fx.keys hs k c',h.Ez⟩
 ·exact hsa.1 ⟨_,hmem,hS.imp id λe=> .inl e⟩
 ·rw [Q34]
  have e:Jb (Vr cs) k (Vk c'.b)=Vr cs:=by
   have hnd:((Vr cs).map (·.1)).Nodup:=by rw [Ch];exact h.Fx.keys
   obtain ⟨l1,l2,he,_⟩:=Uq (show Qs (Vr cs) k=some (Vk c.b) from by rw [Vt,hc];rfl);rw [he] at hnd⊢;rw [hb,Vi hnd]
  rw [e];exact h.map.of_heap (hk.block m h.map.lt λhS=>hS.elim (h.Qg7 hmem).1 (h.Qg7 hmem).2)
theorem X6.Qj4 (h:X6 w s d l P o st m cs ka kc K) (hs:Yy st.keys) (hc:Qs cs k=none) (hk:Kp (Mer.One m) w w') (hm:U2 Value.string w' m (Jb (Vr cs) k (Vk c.b))) (hok:Xr 203 w' c) (hb:w.heap.size<=c.b) (hr: ∀g,c.row.ownBlock=some g->w.heap.size<=g):
  X6 w' s d l P o {st with keys:=Z3 st.keys k c.vs} m (Jb cs k c) ka kc K:=by
 have hkn:k∉cs.map (·.1):=Z5.1 hc;obtain ⟨es,ck,hm0,_⟩:=id h.map;have hg:Jb cs k c=cs++[(k,c)]:=Dv hkn;refine ⟨hk.get h.cell λe=>h.Q1g e,by rw [Q34];exact hm,?_,?_,Q8j h.perm h.Fx.keys hs k c,h.Ez⟩
 ·rw [hg];refine h.Fx.add hkn hk (λg hf e=>?_) hok hb hr;have e:g=m:=e;rw [e] at hf;obtain ⟨p,hp,hf|hf|⟨x,hx,hf⟩⟩:=hf
  ·exact (h.Qg7 hp).1 hf
  ·exact (h.Qg7 hp).2 hf
  ·obtain ⟨cur,E2⟩:=Own.type ((h.Fx.each p hp).vals x hx) _ hf;exact Xz E2 hm0 rfl
 ·refine h.kept.keep hk λg hf e=>?_;have e:g=m:=e;rw [e] at hf;rcases hf with hf|⟨x,hx,hf⟩
  ·obtain ⟨cur,E2⟩:=h.kept.own.type _ hf;exact Xz E2 hm0 rfl
  ·obtain ⟨cur,E2⟩:=Own.type (h.kept.vals x hx) _ hf;exact Xz E2 hm0 rfl
theorem X6.setOf (h:X6 w s d l P o st m cs ka kc K) (h5:st.of.length=5) {i:Nat} (hi:i<5) (dn:Z1):
  X6 (((w.setCell ⟨s,10+i*3,none⟩ (.int .i64 dn.seq)).setCell ⟨s,10+i*3+1,none⟩ (.int .i64 dn.m)).setCell ⟨s,10+i*3+2,none⟩ (.int .i64 dn.c)) s d l P o {st with of:=st.of.set i dn} m cs ka kc K:=by
 refine h.turn ((((Kp.refl (Mer.One s) w).setCell (p:=⟨s,10+i*3,none⟩) (.inl (show Mer.One s s from rfl)) _).setCell (p:=⟨s,10+i*3+1,none⟩) (.inl (show Mer.One s s from rfl)) _).setCell (p:=⟨s,10+i*3+2,none⟩) (.inl (show Mer.One s s from rfl)) _) ?_ rfl rfl;have h9:=Ql (Ql (Ql h.cell (10+i*3) (.int .i64 dn.seq)) (10+i*3+1) (.int .i64 dn.m)) (10+i*3+2) (.int .i64 dn.c);rw [h9];have hs:=λj=>Fm (of:=st.of) (i:=i) (by omega) dn j;unfold F8;simp only
 rcases O6 hi with rfl|rfl|rfl|rfl|rfl
 all_goals
  rw [hs 0,hs 1,hs 2,hs 3,hs 4];simp
theorem X6.Ie (h:X6 w s d l P o st m cs ka kc K) {x:Qe} {a':Option Addr} {c2:Nat} (hk:Kp (λg=>(Value.slice ka K.length kc).ownBlock=some g) w w') (ho:Own w' 46 9 (.slice a' (K.length+1) c2) (K.length+1) (K.flatMap recC++recC x))
  (hb:(Value.slice a' (K.length+1) c2).ownBlock=(Value.slice ka K.length kc).ownBlock\/ ∃g,(Value.slice a' (K.length+1) c2).ownBlock=some g/\w.heap.size<=g) (hx:x.ok w):
  X6 (w'.setCell ⟨s,25,none⟩ (.slice a' (K.length+1) c2)) s d l P o {st with kept:=st.kept++[x.r]} m cs a' c2 (K++[x]):=by
 have hsa:=h.F7;have hkt: ∀g,(Value.slice ka K.length kc).ownBlock=some g-> ∃cur,w.heap[g]?=some (.cells cur 46 (0,0)):=λg hg=>h.kept.own.type g hg;obtain ⟨es,ck,hm0,_⟩:=id h.map;have hcell:=hk.get h.cell λhg=>hsa.2 (.inl hg);have hsl:=Q7 h.cell;have hs:Kp (Mer.One s) w' (w'.setCell ⟨s,25,none⟩ (.slice a' (K.length+1) c2)):=(Kp.refl (Mer.One s) w').setCell (p:=⟨s,25,none⟩) (.inl (show Mer.One s s from rfl)) _;have hall:Kp (λg=>g=s\/(Value.slice ka K.length kc).ownBlock=some g) w (w'.setCell ⟨s,25,none⟩ (.slice a' (K.length+1) c2)):=(hk.mono λ_ _ e=> .inr e).trans hs λ_ _ e=> .inl e
 have hnew: ∀g,(Value.slice a' (K.length+1) c2).ownBlock=some g->g≠s:=λg hg e=>by
  rcases hb with hb|⟨g',hb,hg'⟩
  ·exact hsa.2 (.inl (by rw [<-hb,hg,e]))
  ·rw [hb] at hg;injection hg with hg;omega
 refine ⟨?_,h.map.of_heap (hall.block m h.map.lt λhS=>?_),h.Fx.keep hall λg hf hS=>?_,⟨?_,λy hy=>?_⟩,h.perm,by rw [List.map_append,h.Ez];rfl⟩
 ·have:=Ql hcell 25 (.slice a' (K.length+1) c2);rw [List.length_append,List.length_singleton];simpa [F8] using this
 ·rcases hS with hS|hS
  ·exact h.Q1g hS.symm
  ·obtain ⟨cur,E2⟩:=hkt _ hS;exact Xz E2 hm0 rfl
 ·rcases hS with hS|hS
  ·exact hsa.1 (hS▸hf)
  ·obtain ⟨cur,E2⟩:=hkt _ hS;obtain ⟨p,hp,hf|hf|⟨y,hy,hf⟩⟩:=hf
   ·exact h.Ig hp g (.inl hS) (.inl hf)
   ·exact h.Ig hp g (.inl hS) (.inr hf)
   ·obtain ⟨cur',C9⟩:=Own.type ((h.Fx.each p hp).vals y hy) _ hf;exact Qd E2 C9 (by decide) rfl
 ·rw [List.length_append,List.length_singleton,List.flatMap_append,List.flatMap_cons,List.flatMap_nil,List.append_nil];exact ho.keep hs λg hg e=>hnew g hg e
 ·have hval:y.ok w:=by
   rcases List.mem_append.1 hy with hy|hy
   ·exact h.kept.vals y hy
   ·rw [List.mem_singleton] at hy;rw [hy];exact hx
  exact Qm.ok.apart hval hall λg hg cur J5=>by
   rcases hg with rfl|hg
   ·exact Qd J5 h.cell (by decide) rfl
   ·obtain ⟨cur',C9⟩:=hkt _ hg;exact Qd J5 C9 (by decide) rfl
end
theorem Ef (o:Nat): ∀(L:List Qu) (st:Ja),(Jh o st L).of=Cl st.of L/\(Jh o st L).mm=st.mm/\(Jh o st L).mc=st.mc/\(Jh o st L).Zc=st.Zc/\(Jh o st L).n=st.n/\(Jh o st L).dead=st.dead
 |[],_=>⟨rfl,rfl,rfl,rfl,rfl,rfl⟩
 |r::L,st=>Ef o L (E7 o st r)
theorem Lb (o:Nat) (L:List Qu) (r:Qu) (st:Ja):Jh o st (L++[r])=E7 o (Jh o st L) r:=by
 unfold Jh;rw [List.foldl_append];rfl
def Ue (r y:Nat) (P:ByteArray) (o:Nat) (st:Ja) (lv kv:Value):Array Value:=
 #[Vk r, .string P, .int .i64 (o:Int),Vk y, .int .i64 (st.Zc:Int),lv, .int .i64 st.mm, .int .i64 st.mc,
  .int .i64 (Qn st.of 0).seq, .int .i64 (Qn st.of 0).m, .int .i64 (Qn st.of 0).c, .int .i64 (Qn st.of 1).seq, .int .i64 (Qn st.of 1).m, .int .i64 (Qn st.of 1).c,
  .int .i64 (Qn st.of 2).seq, .int .i64 (Qn st.of 2).m, .int .i64 (Qn st.of 2).c, .int .i64 (Qn st.of 3).seq, .int .i64 (Qn st.of 3).m, .int .i64 (Qn st.of 3).c,
  .int .i64 (Qn st.of 4).seq, .int .i64 (Qn st.of 4).m, .int .i64 (Qn st.of 4).c,kv, .int .i64 (st.n:Int), .bool st.dead]
def Xe (p:ByteArray×Zs):List Value:=[.string p.1,Vk p.2.b]
theorem Ya (p:ByteArray×Zs):(Xe p).length=2:=rfl
theorem Kg (p:ByteArray×Zs): ∀u∈Xe p,u.oneCell'=true:=by
 intro u hu;simp only [Xe,List.mem_cons,List.not_mem_nil,or_false] at hu;rcases hu with rfl|rfl<;>rfl
theorem Np:(Tryz.prog.info? 158).map (λi=>((i.zero.map λz=>z.cells.size),i.size,i.bytes))=some (some 2,2,24):=by kernel_rfl
structure Vo (w:World) (x r y:Nat) (P:ByteArray) (o:Nat) (st:Ja) (la:Option Addr) (lc:Nat) (cs:Zn) (ka:Option Addr) (kc:Nat) (K:List Qe):Prop where
 cell:w.heap[x]?=some (.cells (Ue r y P o st (.slice la cs.length lc) (.slice ka K.length kc)) 64 (0,0))
 row:Own w 158 2 (.slice la cs.length lc) cs.length (cs.flatMap Xe)
 Fx:U1 148 w cs
 kept:As w ka kc K
 Vd:Jp cs=st.keys
 Ez:st.kept=K.map Qe.r
def Zg (x:Nat) (la:Option Addr) (lc:Nat) (cs:Zn) (ka:Option Addr) (kc:Nat) (K:List Qe):Nat->Prop:=λk=>k=x\/(Value.slice la cs.length lc).ownBlock=some k\/K6 cs k\/Au ka kc K k
section
variable {w w':World} {cs:Zn} {la ka:Option Addr} {lc kc:Nat} {K:List Qe} {x r y o:Nat} {P Q:ByteArray} {st:Ja}
theorem Vo.keep {S:Nat->Prop} (h:Vo w x r y P o st la lc cs ka kc K) (hk:Kp S w w') (hS: ∀k,Zg x la lc cs ka kc K k-> ¬S k):Vo w' x r y P o st la lc cs ka kc K:=
 {h with
  cell:=hk.get h.cell (hS x (.inl rfl))
  row:=h.row.keep hk λg hg=>hS g (.inr (.inl hg))
  Fx:=h.Fx.keep hk λk hf=>hS k (.inr (.inr (.inl hf)))
  kept:=h.kept.keep hk λk hf=>hS k (.inr (.inr (.inr hf)))}
theorem Vo.Q9 (h:Vo w x r y P o st la lc cs ka kc K) (hk:Kp No w w'):Vo w' x r y P o st la lc cs ka kc K:=h.keep hk λ_ _ x=>x
theorem Vo.lt (h:Vo w x r y P o st la lc cs ka kc K): ∀k,Zg x la lc cs ka kc K k->k<w.heap.size:=by
 rintro k (rfl|hk|hk|hk)
 ·exact Q7 h.cell
 ·exact h.row.lt k hk
 ·exact h.Fx.lt k hk
 ·exact h.kept.lt k hk
theorem Vo.at_ (h:Vo w x r y P o st la lc cs ka kc K) {W:World} (hW:Kp No w W) (i:Nat):
  W.cell? ⟨x,i,none⟩=(Ue r y P o st (.slice la cs.length lc) (.slice ka K.length kc))[i]?:=Q4 (hW.get h.cell λx=>x) i
theorem Vo.Oo (h:Vo w x r y P o st la lc cs ka kc K):(Value.slice la cs.length lc).ownBlock≠some x/\ ¬K6 cs x/\ ¬Au ka kc K x:=by
 refine ⟨λhs=>?_,?_,?_⟩
 ·obtain ⟨cur,hc⟩:=h.row.type x hs;exact Qd h.cell hc (by decide) rfl
 ·rintro ⟨p,hp,hs|hs|⟨z,hz,hs⟩⟩
  ·exact Qd h.cell (h.Fx.each p hp).cell (by decide) hs
  ·obtain ⟨cur,hc⟩:=(h.Fx.each p hp).own.type x hs;exact Qd h.cell hc (by decide) rfl
  ·obtain ⟨cur,hc⟩:=Own.type ((h.Fx.each p hp).vals z hz) x hs;exact Qd h.cell hc (by decide) rfl
 ·rintro (hs|⟨z,hz,hs⟩)
  ·obtain ⟨cur,hc⟩:=h.kept.own.type x hs;exact Qd h.cell hc (by decide) rfl
  ·obtain ⟨cur,hc⟩:=Own.type (h.kept.vals z hz) x hs;exact Qd h.cell hc (by decide) rfl
theorem Vo.turn {r' y' o':Nat} {P':ByteArray} {st':Ja} (h:Vo w x r y P o st la lc cs ka kc K) (hk:Kp (Mer.One x) w w') (hc:w'.heap[x]?=some (.cells (Ue r' y' P' o' st' (.slice la cs.length lc) (.slice ka K.length kc)) 64 (0,0))) (h1:st'.keys=st.keys) (h2:st'.kept=st.kept):Vo w' x r' y' P' o' st' la lc cs ka kc K:=
 ⟨hc,h.row.keep hk λg hg e=>h.Oo.1 ((show g=x from e)▸hg),h.Fx.keep hk λk hf e=>h.Oo.2.1 ((show k=x from e)▸hf),h.kept.keep hk λk hf e=>h.Oo.2.2 ((show k=x from e)▸hf),by rw [h1];exact h.Vd,by rw [h2];exact h.Ez⟩
end
structure D7 (w:World) (x r y:Nat) (P Q:ByteArray) (o:Nat) (st:Ja) (la:Option Addr) (lc:Nat) (cs:Zn) (ka:Option Addr) (kc:Nat) (K:List Qe) (ds:Qz) (lg:Jf) (F G:Nat->Prop):Prop where
 st:Vo w x r y P o st la lc cs ka kc K
 at_:Ms w r y Q ds lg F G
 sF: ∀i,Zg x la lc cs ka kc K i-> ¬F i
 sG: ∀i,Zg x la lc cs ka kc K i-> ¬G i
theorem D7.Q9 {w w':World} {x r y o:Nat} {P Q:ByteArray} {st:Ja} {la ka:Option Addr} {lc kc:Nat} {cs:Zn} {K:List Qe} {ds:Qz} {lg:Jf} {F G:Nat->Prop} (h:D7 w x r y P Q o st la lc cs ka kc K ds lg F G) (hk:Kp No w w'):D7 w' x r y P Q o st la lc cs ka kc K ds lg F G:=⟨h.st.Q9 hk,h.at_.no hk,h.sF,h.sG⟩
theorem Dm (a:Option Addr) (c:Nat) (xs:List UInt8) (B:Nat) (w:World) (hr:Rd w B a (u8s xs)) (hm:xs.length<=140737488355328):
  Calls Tryz.prog 82 #[.slice a xs.length c] w λe w'=> ∃v,e= .returned v/\Own w' 5 1 v xs.length (u8s xs)/\Kp No w w'/\ ∀g,v.ownBlock=some g->w.heap.size<=g:=by
 obtain ⟨i0,hi,hz0,hz1,hz2⟩:=info_parts infoByte;cases a with
 |none=>
  have hx:xs=[]:=by
   rcases Nat.eq_zero_or_pos xs.length with h|h
   ·exact List.eq_nil_of_length_eq_zero h
   ·obtain ⟨g,off,h1,_⟩:=hr (by rw [Yj];exact h);cases h1
  subst hx;have hq:=λw=>Lib.run_eql_slice_nil (P:=Tryz.prog) w 42 5 none 0 c 0 0 Tryz.underlying42;simp only [List.length_nil];go_enter Tryz.func82,Tryz.ntmps82
  go_wp2_with fail
  go_ret
  exact ⟨_,rfl,Own.nil _ _ _,Kp.refl _ _,λg h=>by simp [Value.ownBlock] at h⟩
 |some ad=>
  have hq:=λw=>Lib.run_eql_slice_nil (P:=Tryz.prog) w 42 5 (some ad) xs.length c 0 0 Tryz.underlying42;have hal:Kp No w (w.alloc (.cells #[] 5)):=zK.alloc _;have hown0:Own (w.alloc (.cells #[] 5)) 5 1 (.slice (some ⟨w.heap.size,0,none⟩) 0 0) 0 []:=Own.made w 5 1 #[] 0 0 (Nat.le_refl _) (by simp [maxLen]) (by simp) rfl
  have hsrc:Mer.Src (w.alloc (.cells #[] 5)) 1 (.slice (some ad) xs.length c) xs.length (u8s xs):=⟨by simp [Yj],some ad,c,rfl,λhx=>by
   obtain ⟨g,off,h1,h2,h3,h4⟩:=hr hx;exact ⟨g,off,h1,by simp;omega,Nat.le_refl _,λj u hu=>(hal.cell (p:=⟨g,off+j,none⟩) (by show g<_;omega) (λx=>x)).trans (h4 j u hu)⟩⟩
  obtain ⟨v1,w1,hrun,hown,hkp,hblk⟩:=Z0 (P:=Tryz.prog) (w:=w.alloc (.cells #[] 5)) 42 42 42 5 i0 (.int .u8 0) 1 1 Tryz.underlying42 ⟨_,Tryz.underlying42⟩ hi hz0 hz1 hz2 rfl
   (.slice (some ⟨w.heap.size,0,none⟩) 0 0) 0 [] hown0 (.slice (some ad) xs.length c) xs.length (u8s xs) hsrc (Om xs) (by simp only [maxLen];omega) (by omega)
  have HO:=zz hown;have HK:=zz hkp;have HB:=zz hblk;have HR:=zz hrun;clear hown hkp hblk hown0 hsrc hz0 hz1 hz2 hi hrun;go_enter Tryz.func82,Tryz.ntmps82
  go_wp2_with (at_builtin;refine wpList_append_run rfl rfl rfl rfl HR.out ?_)
  go_ret
  refine ⟨_,rfl,by simpa using HO.out,hal.trans HK.out (λk hk h=>by simp [Value.ownBlock] at h;omega),λg hg=>?_⟩;rcases HB.out with h|⟨g',h,h'⟩
  ·have hg2:v1.ownBlock=some g:=hg;rw [h] at hg2;simp [Value.ownBlock] at hg2
   omega
  ·have hg2:v1.ownBlock=some g:=hg;rw [h] at hg2;injection hg2 with hg2;simp at h'
   omega
def Qiu (w:World) (s d l:Nat) (P:ByteArray) (o:Nat) (st:Ja) (m:Nat) (cs:Zn) (ka:Option Addr) (kc:Nat) (K:List Qe) (L:List Qu) (B:Nat) (k:Nat) (wr:World):Prop:=
 ∃cs' Ce Cf K',X6 wr s d l P o (Jh o st (L.take k)) m cs' Ce Cf K'/\(∀g,Ve s m cs' Ce Cf K' g->Ve s m cs ka kc K g\/w.heap.size<=g)/\Kp (Ve s m cs ka kc K) w wr/\(∀p∈cs',p.2.R.length<=B+k)/\K'.length<=B+k
theorem Q87 {mm mc:Int}: ∀(A B:List Qu) (of:List Z1),Xx mm mc of (A++B)=(Xx mm mc of A&&Xx mm mc (Cl of A) B)
 |[],B,of=>by simp [Xx,Cl]
 |r::A,B,of=>by
  rw [List.cons_append,Xx,Xx,Q87 A B,Bool.and_assoc];rfl
theorem Q80 {o:Nat} {st:Ja} (hi:Inv o st) {L:List Qu} (hr: ∀r∈L,Z4 r=true) (hg:Xx st.mm st.mc st.of L=true) {k:Nat} {r:Qu} (hk:L[k]?=some r):
  Inv o (Jh o st (L.take k))/\Uv st.mm st.mc (Jh o st (L.take k)).of r=true:=by
 have hkl:=(List.getElem?_eq_some_iff.1 hk).1;have he:=(List.getElem?_eq_some_iff.1 hk).2
 have hsp:L=L.take k++(r::L.drop (k+1)):=by
  rw [<-he,<-List.drop_eq_getElem_cons hkl,List.take_append_drop]
 rw [hsp,Q87,Xx,Bool.and_eq_true,Bool.and_eq_true] at hg;refine ⟨Q7o _ hi (λx hx=>hr x (List.mem_of_mem_take hx)) hg.1,?_⟩;rw [(Ef o _ st).1];exact hg.2.1
theorem Q6v {w:World} {cs:Zn} {k:ByteArray} {c c':Zs} (hc:Qs cs k=some c) (hn:(cs.map (·.1)).Nodup) (hb:c'.b=c.b) (hrow:c'.row.ownBlock=c.row.ownBlock\/ ∀g,c'.row.ownBlock=some g->w.heap.size<=g) (hv: ∀y∈c'.R,y∈c.R\/ ∀g,y.sl.ownBlock=some g->w.heap.size<=g):
  ∀g,K6 (Jb cs k c') g->K6 cs g\/w.heap.size<=g:=by
 have hmem:=Jc hc;obtain ⟨l1,l2,rfl,_⟩:=Uq hc;rw [Vi hn];rintro g ⟨p,hp,hf⟩;rcases List.mem_append.1 hp with hp|hp
 ·exact .inl ⟨p,List.mem_append_left _ hp,hf⟩
 ·rcases List.mem_cons.1 hp with rfl|hp
  ·rcases hf with hf|hf|⟨y,hy,hf⟩
   ·exact .inl ⟨_,hmem, .inl (hf.trans hb)⟩
   ·rcases hrow with h|h
    ·exact .inl ⟨_,hmem, .inr (.inl (h▸hf))⟩
    ·exact .inr (h g hf)
   ·rcases hv y hy with h|h
    ·exact .inl ⟨_,hmem, .inr (.inr ⟨y,h,hf⟩)⟩
    ·exact .inr (h g hf)
  ·exact .inl ⟨p,List.mem_append_right _ (List.mem_cons_of_mem _ hp),hf⟩
theorem Nl {cs:Zn} {k:ByteArray} {c':Zs} {Q:Zs->Prop} (h: ∀p∈cs,Q p.2) (hc:Q c'): ∀p∈Jb cs k c',Q p.2:=by
 intro p hp;unfold Jb at hp;split at hp
 ·obtain ⟨q,hq,rfl⟩:=List.mem_map.1 hp;split
  ·exact hc
  ·exact h q hq
 ·rcases List.mem_append.1 hp with hp|hp
  ·exact h p hp
  ·rw [List.mem_singleton] at hp;rw [hp];exact hc
theorem X6.congr {w:World} {s d l o m:Nat} {P:ByteArray} {st st':Ja} {cs:Zn} {ka:Option Addr} {kc:Nat} {K:List Qe} (h:X6 w s d l P o st m cs ka kc K) (hp:st.keys.Perm st'.keys)
  (e1:st'.Zc=st.Zc) (e2:st'.n=st.n) (e3:st'.dead=st.dead) (e4:st'.mm=st.mm) (e5:st'.mc=st.mc) (e6:st'.of=st.of) (e7:st'.kept=st.kept):X6 w s d l P o st' m cs ka kc K:=
 ⟨by have:=h.cell;unfold F8 at this⊢;rw [e1,e2,e3,e4,e5,e6];exact this,h.map,h.Fx,h.kept,h.perm.trans hp,by rw [e7];exact h.Ez⟩
theorem Qcf {l:List (ByteArray×List Qo)} (hs:Yy l) (k:ByteArray) (a c:List Qo):(Z3 (Z3 l k a) k c).Perm (Z3 l k c):=by
 refine Io (Vw (Yc (Yc hs k a) k c)) (Vw (Yc hs k c)) λq=>?_;rw [Nk (Yc hs k a),Nk hs,Nk hs];split
 ·rfl
 ·rfl
end Go.Proofs.YtgnkmjeoaoongaaGreatDoor
