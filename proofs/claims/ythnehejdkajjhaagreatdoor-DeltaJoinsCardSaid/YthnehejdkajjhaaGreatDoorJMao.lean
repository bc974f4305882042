/- A script between two graphs leads from the first to the second: plain. A script between two valid graphs leads from the first to the second, and is empty exactly if they are alike: plain. Scripts hold fine values; lists of lists. Values of graphs that changes lead to; the changes of a script as arguments: plain. What a check finds, said in one; a step keeps graphs valid: plain. Scripts to graphs that are alike are alike: plain. -/
import Derived.Test.YthnehejdkajjhaaGreatDoorJMan
import Derived.Test.YthnehejdkajjhaaGreatDoorJMai
set_option linter.unusedVariables false
set_option maxRecDepth 4000
namespace Go.Proofs.YthnehejdkajjhaaGreatDoor
namespace AI
section
variable {κ α:Type}
theorem Afx {l:List GN} {z:Int} (h:lk GN.id l z=none):¬∃n∈l,n.id=z:=fun⟨n,hn,e⟩=>KE.1 h n hn e
theorem AcQ {l:List GE} {z:Int} (h:lk GE.id l z=none):¬∃n∈l,n.id=z:=fun⟨n,hn,e⟩=>KE.1 h n hn e
end
theorem Ahy:∀{D:List Int} {h:GG},Ef h→(∀ z∈D,Jw z)→D.Nodup→(∀ z∈D,∃x∈h.edges,x.id=z)→
 ∃h',FT h (D.map fun z=>DU 7 z [])=some h'∧Ef h'∧h'.nodes=h.nodes∧h'.edges.length≤h.edges.length∧∀y,lk GE.id h'.edges y=if y∈D then none else lk GE.id h.edges y
 |[],h,a,_,_,_=>⟨h,rfl,a,rfl,Nat.le_refl _,fun y=>by simp⟩
 |z::D,h,a,hz,hD,hx=>by
  have hD':=List.nodup_cons.1 hD
  obtain⟨x,hxm,hxi⟩:=hx z (by simp)
  have h1:stepG h (DU 7 z [])=(0,{h with edges:=Cc BX GE.id z h.edges}):=by
   rw[ZM (Ahz (by omega) (hz z (by simp))) (show ¬(7:Int)≤5 by decide)]
   exact eG7 (c:=DU 7 z []) rfl (Di Ak a.iE hxm hxi)
  have a1:=a.step (c:=DU 7 z [])
  rw[h1]at a1
  obtain⟨h',r,a',e1,el,e2⟩:=Ahy (D:=D) a1 (fun y hy=>hz y (by simp[hy])) hD'.2 (fun y hy=>by
   obtain⟨x,hx,e⟩:=hx y (by simp[hy])
   exact⟨x,(Na Ak).2 ⟨hx,fun e2=>hD'.1 (by rw[← e2,e];exact hy)⟩,e⟩)
  refine⟨h',Hg h1 r,a',e1,Nat.le_trans el (Dz Ak),fun y=>?_⟩
  rw[e2]
  show(if y∈D then none else lk GE.id (Cc BX GE.id z h.edges) y)=_
  rw[ZN Ak a.iE]
  by_cases q:y∈D
  ·rw[if_pos q,if_pos (by simp[q])]
  ·rw[if_neg q]
   by_cases q2:y=z
   ·rw[if_pos q2,if_pos (by simp[q2])]
   ·rw[if_neg q2,if_neg (by simp[q,q2])]
theorem AhA:∀{D:List Int} {h:GG},Ef h→(∀ z∈D,Jw z)→D.Nodup→(∀ z∈D,∃x∈h.nodes,x.id=z)→(∀ e∈h.edges,e.fr∉D∧e.to∉D)→
 ∃h',FT h (D.map fun z=>DU 2 z [])=some h'∧Ef h'∧h'.edges=h.edges∧h'.nodes.length≤h.nodes.length∧∀y,lk GN.id h'.nodes y=if y∈D then none else lk GN.id h.nodes y
 |[],h,a,_,_,_,_=>⟨h,rfl,a,rfl,Nat.le_refl _,fun y=>by simp⟩
 |z::D,h,a,hz,hD,hx,he=>by
  have hD':=List.nodup_cons.1 hD
  obtain⟨x,hxm,hxi⟩:=hx z (by simp)
  have h1:stepG h (DU 2 z [])=(0,{h with nodes:=Cc BX GN.id z h.nodes}):=by
   rw[TY (Ahz (by omega) (hz z (by simp))) (show (2:Int)≤5 by decide)]
   refine nG2 (c:=DU 2 z []) rfl (Di Ak a.iN hxm hxi) ?_
   rintro⟨e,hm,h|h⟩
   ·exact(he e hm).1 (by rw[show e.fr=z from h];simp)
   ·exact(he e hm).2 (by rw[show e.to=z from h];simp)
  have a1:=a.step (c:=DU 2 z [])
  rw[h1]at a1
  obtain⟨h',r,a',e1,el,e2⟩:=AhA (D:=D) a1 (fun y hy=>hz y (by simp[hy])) hD'.2 (fun y hy=>by
   obtain⟨x,hx,e⟩:=hx y (by simp[hy])
   exact⟨x,(Na Ak).2 ⟨hx,fun e2=>hD'.1 (by rw[← e2,e];exact hy)⟩,e⟩) (fun e hm=>⟨fun q=>(he e hm).1 (by simp[q]),fun q=>(he e hm).2 (by simp[q])⟩)
  refine⟨h',Hg h1 r,a',e1,Nat.le_trans el (Dz Ak),fun y=>?_⟩
  rw[e2]
  show(if y∈D then none else lk GN.id (Cc BX GN.id z h.nodes) y)=_
  rw[ZN Ak a.iN]
  by_cases q:y∈D
  ·rw[if_pos q,if_pos (by simp[q])]
  ·rw[if_neg q]
   by_cases q2:y=z
   ·rw[if_pos q2,if_pos (by simp[q2])]
   ·rw[if_neg q2,if_neg (by simp[q,q2])]
theorem AhB:∀{D:List Int} {h:GG},Ef h→(∀ z∈D,Jw z)→D.Nodup→(∀ z∈D,lk GN.id h.nodes z=none)→h.nodes.length+D.length≤2000→
 ∃h',FT h (D.map fun z=>DU 1 z [])=some h'∧Ef h'∧h'.edges=h.edges∧∀y,lk GN.id h'.nodes y=if y∈D then some ⟨y,false,[],false,[]⟩else lk GN.id h.nodes y
 |[],h,a,_,_,_,_=>⟨h,rfl,a,rfl,fun y=>by simp⟩
 |z::D,h,a,hz,hD,hx,hl=>by
  have hD':=List.nodup_cons.1 hD
  rw[List.length_cons]at hl
  have h1:stepG h (DU 1 z [])=(0,{h with nn:=true,nodes:=A8 BX GN.id ⟨z,false,[],false,[]⟩ h.nodes,BF:=if z+1>h.BF then z+1 else h.BF}):=by
   rw[TY (Ahz (by omega) (hz z (by simp))) (show (1:Int)≤5 by decide)]
   exact nG1 (c:=DU 1 z []) rfl (Afx (hx z (by simp))) (by omega)
  have a1:=a.step (c:=DU 1 z [])
  rw[h1]at a1
  have hlk:∀y,lk GN.id (A8 BX GN.id ⟨z,false,[],false,[]⟩ h.nodes) y=if y=z then some ⟨z,false,[],false,[]⟩else lk GN.id h.nodes y:=fun y=>OU Ak a.iN
  obtain⟨h',r,a',e1,e2⟩:=AhB (D:=D) a1 (fun y hy=>hz y (by simp[hy])) hD'.2 (fun y hy=>by
   show lk GN.id (A8 BX GN.id ⟨z,false,[],false,[]⟩ h.nodes) y=none
   rw[hlk,if_neg (fun e=>hD'.1 (by rw[← e];exact hy))]
   exact hx y (by simp[hy])) (by
   have:=EC (key:=GN.id) Ak (x:=⟨z,false,[],false,[]⟩) (l:=h.nodes)
   show(A8 BX GN.id ⟨z,false,[],false,[]⟩ h.nodes).length+D.length≤2000
   omega)
  refine⟨h',Hg h1 r,a',e1,fun y=>?_⟩
  rw[e2]
  show(if y∈D then _ else lk GN.id (A8 BX GN.id ⟨z,false,[],false,[]⟩ h.nodes) y)=_
  rw[hlk]
  by_cases q:y∈D
  ·rw[if_pos q,if_pos (by simp[q])]
  ·rw[if_neg q]
   by_cases q2:y=z
   ·rw[if_pos q2,if_pos (by simp[q2]),q2]
   ·rw[if_neg q2,if_neg (by simp[q,q2])]
def NJ (x:GE):GE:=⟨x.id,x.fr,x.to,x.ty,false,[]⟩
theorem AhC:∀{D:List GE} {h:GG},Ef h→(∀ x∈D,Jw x.id∧Jw x.fr∧Jw x.to∧isName x.ty∧(∃ n∈h.nodes,n.id=x.fr)∧∃n∈h.nodes,n.id=x.to)→(D.map GE.id).Nodup→(∀ x∈D,lk GE.id h.edges x.id=none)→h.edges.length+D.length≤4000→
 ∃h',FT h (D.map newE)=some h'∧Ef h'∧h'.nodes=h.nodes∧∀y,lk GE.id h'.edges y=((lk GE.id D y).map NJ).or (lk GE.id h.edges y)
 |[],h,a,_,_,_,_=>⟨h,rfl,a,rfl,fun y=>rfl⟩
 |x::D,h,a,hz,hD,hx,hl=>by
  have hD':=List.nodup_cons.1 hD
  rw[List.length_cons]at hl
  obtain⟨z1,z2,z3,z4,z5,z6⟩:=hz x (by simp)
  have hck:Il (newE x)=0:=by
   refine ck0 ?_ (fun _=>z4) (fun _=>.inl Le)
   rintro(h|h|h|h|h|h)
   ·exact h (show (1:Int)≤6∧(6:Int)≤8 by decide)
   ·exact h z1
   ·exact h.1 (show Oi 6 by unfold Oi;omega)
   ·exact h.2 Le
   ·exact h.2.elim (fun k=>k z2) (fun k=>k z3)
   ·exact h.1 rfl
  have h1:stepG h (newE x)=(0,{h with en:=true,edges:=A8 BX GE.id (NJ x) h.edges,BA:=if x.id+1>h.BA then x.id+1 else h.BA}):=by
   rw[ZM hck (show ¬(6:Int)≤5 by decide)]
   exact eG6 (c:=newE x) rfl (AcQ (hx x (by simp))) ⟨z5,z6⟩ (by omega)
  have a1:=a.step (c:=newE x)
  rw[h1]at a1
  have hlk:∀y,lk GE.id (A8 BX GE.id (NJ x) h.edges) y=if y=x.id then some (NJ x)else lk GE.id h.edges y:=fun y=>OU Ak a.iE
  obtain⟨h',r,a',e1,e2⟩:=AhC (D:=D) a1 (fun y hy=>hz y (by simp[hy])) hD'.2 (fun y hy=>by
   show lk GE.id (A8 BX GE.id (NJ x) h.edges) y.id=none
   rw[hlk,if_neg (fun e=>hD'.1 (by rw[← e];exact List.mem_map_of_mem hy))]
   exact hx y (by simp[hy])) (by
   have:=EC (key:=GE.id) Ak (x:=NJ x) (l:=h.edges)
   show(A8 BX GE.id (NJ x) h.edges).length+D.length≤4000
   omega)
  refine⟨h',Hg h1 r,a',e1,fun y=>?_⟩
  rw[e2]
  show((lk GE.id D y).map NJ).or (lk GE.id (A8 BX GE.id (NJ x) h.edges) y)=_
  rw[hlk]
  have e3:lk GE.id (x::D) y=if x.id=y then some x else lk GE.id D y:=by
   unfold lk
   rw[List.find?_cons]
   by_cases q:x.id=y
   ·rw[decide_eq_true q,if_pos q]
   ·rw[decide_eq_false q,if_neg q]
  rw[e3]
  by_cases q:x.id=y
  ·have e4:lk GE.id D y=none:=KE.2 fun w hw e=>hD'.1 (by rw[q,←e];exact List.mem_map_of_mem hw)
   rw[if_pos q,if_pos q.symm,e4];rfl
  ·rw[if_neg q,if_neg (fun e=>q e.symm)]
theorem AhD {N:List GN} (hN:∀n∈N,VN n) (hI:Inc BX GN.id N):∀{B:List GN} {h:GG},Ef h→(∀ n∈B,VN n)→(B.map GN.id).Nodup→(∀ n∈B,∃m,lk GN.id h.nodes n.id=some m∧m.labels=(Fg N n).labels∧m.props=(Fg N n).props)→
 ∃h',FT h (B.flatMap (H9 N))=some h'∧Ef h'∧h'.edges=h.edges∧(∀ n∈B,∃m,lk GN.id h'.nodes n.id=some m∧SN m n)∧∀y,y∉B.map GN.id→lk GN.id h'.nodes y=lk GN.id h.nodes y
 |[],h,a,_,_,_=>⟨h,rfl,a,rfl,fun _ h=>by simp at h,fun y _=>rfl⟩
 |n::B,h,a,hv,hD,hm=>by
  have hD':=List.nodup_cons.1 hD
  obtain⟨m,m1,m2,m3⟩:=hm n (by simp)
  have hw:allNames (Fg N n).labels∧allNames (keysOf (Fg N n).props):=by
   unfold Fg
   cases hc:N.find? (X9 n.id)with
   |none=>exact⟨fun s hs=>(by cases hs),fun s hs=>by cases hs⟩
   |some w=>exact⟨(hN w (List.mem_of_find?_eq_some hc)).nl,(hN w (List.mem_of_find?_eq_some hc)).nk⟩
  obtain⟨h1,mm,r1,a1,s1⟩:=AhE (f:=lk GN.id h.nodes) (E:=h.edges) (N:=N) ⟨a,m1,fun _ _=>rfl,rfl⟩ (hv n (by simp)) rfl rfl m2 m3 hw.1 hw.2
  obtain⟨h',r,a',e1,e2,e3⟩:=AhD hN hI (B:=B) a1.ask (fun y hy=>hv y (by simp[hy])) hD'.2 (fun y hy=>by
   obtain⟨w,w1,w2,w3⟩:=hm y (by simp[hy])
   refine⟨w,?_,w2,w3⟩
   rw[a1.rest _ fun e=>hD'.1 (by rw[← e];exact List.mem_map_of_mem hy)]
   exact w1)
  refine⟨h',by rw[List.flatMap_cons];exact Hq r1 r,a',e1.trans a1.ed,fun y hy=>?_,fun y hy=>?_⟩
  ·rcases List.mem_cons.1 hy with rfl|hy
   ·exact⟨mm,by rw[e3 _ hD'.1];exact a1.here,s1⟩
   ·exact e2 y hy
  ·rw[List.map_cons,List.mem_cons]at hy
   rw[e3 y fun q=>hy (.inr q)]
   exact a1.rest y fun q=>hy (.inl q)
theorem Aec {E:List GE} (hE:∀n∈E,VE n):∀{B:List GE} {h:GG},Ef h→(∀ n∈B,VE n)→(B.map GE.id).Nodup→(∀ n∈B,∃m,lk GE.id h.edges n.id=some m∧(m.fr=n.fr∧m.to=n.to∧m.ty=n.ty)∧m.props=KO E n)→
 ∃h',FT h (B.flatMap (D8 E))=some h'∧Ef h'∧h'.nodes=h.nodes∧(∀ n∈B,∃m,lk GE.id h'.edges n.id=some m∧SE m n)∧∀y,y∉B.map GE.id→lk GE.id h'.edges y=lk GE.id h.edges y
 |[],h,a,_,_,_=>⟨h,rfl,a,rfl,fun _ h=>by simp at h,fun y _=>rfl⟩
 |n::B,h,a,hv,hD,hm=>by
  have hD':=List.nodup_cons.1 hD
  obtain⟨m,m1,m2,m3⟩:=hm n (by simp)
  have hw:allNames (keysOf (KO E n)):=by
   unfold KO
   cases hc:E.find? (XI n.id)with
   |none=>exact fun s hs=>by cases hs
   |some w=>
    show allNames (keysOf (if Ci n w=true then[]else w.props))
    split
    ·exact fun s hs=>by cases hs
    ·exact(hE w (List.mem_of_find?_eq_some hc)).nk
  obtain⟨h1,mm,r1,a1,s1⟩:=AhF (f:=lk GE.id h.edges) (N:=h.nodes) (E:=E) ⟨a,m1,fun _ _=>rfl,rfl⟩ (hv n (by simp)) rfl rfl m2 m3 hw
  obtain⟨h',r,a',e1,e2,e3⟩:=Aec hE (B:=B) a1.ask (fun y hy=>hv y (by simp[hy])) hD'.2 (fun y hy=>by
   obtain⟨w,w1,w2,w3⟩:=hm y (by simp[hy])
   refine⟨w,?_,w2,w3⟩
   rw[a1.rest _ fun e=>hD'.1 (by rw[← e];exact List.mem_map_of_mem hy)]
   exact w1)
  refine⟨h',by rw[List.flatMap_cons];exact Hq r1 r,a',e1.trans a1.nd,fun y hy=>?_,fun y hy=>?_⟩
  ·rcases List.mem_cons.1 hy with rfl|hy
   ·exact⟨mm,by rw[e3 _ hD'.1];exact a1.here,s1⟩
   ·exact e2 y hy
  ·rw[List.map_cons,List.mem_cons]at hy
   rw[e3 y fun q=>hy (.inr q)]
   exact a1.rest y fun q=>hy (.inl q)
theorem Aaf {α:Type} {key:α→Int} {l:List α} (h:Inc BX key l) (p:α→Bool):((l.filter p).map key).Nodup:=List.Nodup.sublist (List.filter_sublist.map _) (NT Ak (EI h))
theorem Am5 {N:List GN} {n:GN}:Ej N n=true↔lk GN.id N n.id=none:=by
 unfold Ej
 rw[Option.isNone_iff_eq_none]
 rfl
theorem SC {E:List GE} {x:GE} (h:lk GE.id E x.id=none):BZ E x=true:=by
 unfold BZ
 rw[show E.find? (XI x.id)=none from h]
theorem Ic {E:List GE} {x y:GE} (h:lk GE.id E x.id=some y):BZ E x=Ci x y:=by
 unfold BZ
 rw[show E.find? (XI x.id)=some y from h]
theorem YT {x y:GE}:Ci x y=Ci y x:=by
 unfold Ci
 congr 1
 apply propext
 constructor<;>(intro h k;exact h ⟨k.1.symm,k.2.1.symm,k.2.2.symm⟩)
theorem AbN {x y:GE} (h:Ci x y=false):x.fr=y.fr∧x.to=y.to∧x.ty=y.ty:=Classical.not_not.1 (of_decide_eq_false h)
theorem leads {a b:GG} (ha:VG a) (hb:VG b) (hN:a.nodes.length+b.nodes.length≤2000) (hE:a.edges.length+b.edges.length≤4000):
 ∃h,FT a (DT a b)=some h∧Ef h∧SG h b:=by
 have iaN:=ha.ask.iN
 have iaE:=ha.ask.iE
 have ibN:=hb.ask.iN
 have ibE:=hb.ask.iE
 obtain⟨D1,hD1⟩:∃D1,D1=(a.edges.filter (BZ b.edges)).map GE.id:=⟨_,rfl⟩
 have mD1:∀z,z∈D1↔∃x∈a.edges,BZ b.edges x=true∧x.id=z:=fun z=>by
  rw[hD1];simp only[List.mem_map,List.mem_filter]
  constructor
  ·rintro⟨x,⟨h1,h2⟩,h3⟩;exact⟨x,h1,h2,h3⟩
  ·rintro⟨x,h1,h2,h3⟩;exact⟨x,⟨h1,h2⟩,h3⟩
 obtain⟨h1,r1,k1,n1,l1,e1⟩:=Ahy (D:=D1) ha.ask (fun z hz=>by obtain⟨x,hx,_,rfl⟩:=(mD1 z).1 hz;exact(ha.e x hx).id) (by rw[hD1];exact Aaf iaE _) (fun z hz=>by obtain⟨x,hx,_,e⟩:=(mD1 z).1 hz;exact⟨x,hx,e⟩)
 obtain⟨D2,hD2⟩:∃D2,D2=(a.nodes.filter (Ej b.nodes)).map GN.id:=⟨_,rfl⟩
 have mD2:∀z,z∈D2↔(∃ x∈a.nodes,x.id=z)∧lk GN.id b.nodes z=none:=fun z=>by
  rw[hD2];simp only[List.mem_map,List.mem_filter,Am5]
  constructor
  ·rintro⟨x,⟨h1,h2⟩,rfl⟩;exact⟨⟨x,h1,rfl⟩,h2⟩
  ·rintro⟨⟨x,h1,rfl⟩,h2⟩;exact⟨x,⟨h1,h2⟩,rfl⟩
 have keep:∀e∈h1.edges,e∈a.edges∧∃y∈b.edges,y.id=e.id∧y.fr=e.fr∧y.to=e.to:=fun e he=>by
  have hl:=Di Ak k1.iE he rfl
  rw[e1]at hl
  split at hl
  ·cases hl
  rename_i hn
  have hm:=(EF hl).1
  refine⟨hm,?_⟩
  cases hq:lk GE.id b.edges e.id with
  |none=>exact absurd ((mD1 _).2 ⟨e,hm,SC hq,rfl⟩) hn
  |some y=>
   have hmv:Ci e y=false:=by
        cases hv:Ci e y with
        |false=>rfl
        |true=>exact absurd ((mD1 _).2 ⟨e,hm,by rw[Ic hq,hv],rfl⟩) hn
   have:=AbN hmv
   exact⟨y,(EF hq).1,(EF hq).2,this.1.symm,this.2.1.symm⟩
 obtain⟨h2,r2,k2,n2,l2,e2⟩:=AhA (D:=D2) k1 (fun z hz=>by obtain⟨⟨x,hx,rfl⟩,_⟩:=(mD2 z).1 hz;exact(ha.n x hx).id) (by rw[hD2];exact Aaf iaN _) (fun z hz=>by rw[n1];exact((mD2 z).1 hz).1) (fun e he=>by
  obtain⟨_,y,hy,_,f1,f2⟩:=keep e he
  obtain⟨⟨p,hp,q1⟩,⟨r,hr,q2⟩⟩:=hb.ends y hy
  constructor
  ·intro h
   have:=KE.1 ((mD2 _).1 h).2 p hp
   exact this (by rw[q1,f1])
  ·intro h
   have:=KE.1 ((mD2 _).1 h).2 r hr
   exact this (by rw[q2,f2]))
 rw[n1]at e2 l2
 obtain⟨D3,hD3⟩:∃D3,D3=(b.nodes.filter (Ej a.nodes)).map GN.id:=⟨_,rfl⟩
 have mD3:∀z,z∈D3↔(∃ x∈b.nodes,x.id=z)∧lk GN.id a.nodes z=none:=fun z=>by
  rw[hD3];simp only[List.mem_map,List.mem_filter,Am5]
  constructor
  ·rintro⟨x,⟨h1,h2⟩,rfl⟩;exact⟨⟨x,h1,rfl⟩,h2⟩
  ·rintro⟨⟨x,h1,rfl⟩,h2⟩;exact⟨x,⟨h1,h2⟩,rfl⟩
 have lD3:D3.length≤b.nodes.length:=by rw[hD3,List.length_map];exact List.length_filter_le _ _
 obtain⟨h3,r3,k3,n3,e3⟩:=AhB (D:=D3) k2 (fun z hz=>by obtain⟨⟨x,hx,rfl⟩,_⟩:=(mD3 z).1 hz;exact(hb.n x hx).id) (by rw[hD3];exact Aaf ibN _) (fun z hz=>by
  rw[e2];split
  ·rfl
  ·exact((mD3 z).1 hz).2) (by omega)
 obtain⟨h4,r4,k4,n4,e4,o4⟩:=AhD (N:=a.nodes) ha.n iaN (B:=b.nodes) k3 hb.n (NT Ak (EI ibN)) (fun n hn=>by
  rw[e3]
  unfold Fg
  cases hq:a.nodes.find? (X9 n.id)with
  |none=>
   rw[if_pos ((mD3 _).2 ⟨⟨n,hn,rfl⟩,hq⟩)]
   exact⟨_,rfl,rfl,rfl⟩
  |some w=>
   have hq:lk GN.id a.nodes n.id=some w:=hq
   rw[if_neg (fun h=>by have:=((mD3 _).1 h).2;rw[hq]at this;cases this),e2,if_neg (fun h=>by have:=((mD2 _).1 h).2;rw[Di Ak ibN hn rfl]at this;cases this),hq]
   exact⟨w,rfl,rfl,rfl⟩)
 have g4:∀y,y∉b.nodes.map GN.id→lk GN.id h4.nodes y=none:=fun y hy=>by
  rw[o4 y hy,e3,if_neg (fun h=>hy (by obtain⟨⟨x,hx,e⟩,_⟩:=(mD3 _).1 h;rw[← e];exact List.mem_map_of_mem hx)),e2]
  split
  ·rfl
  rename_i h
  refine KE.2 fun x hx e=>h ((mD2 _).2 ⟨⟨x,hx,e⟩,KE.2 fun w hw e2=>hy (by rw[← e2];exact List.mem_map_of_mem hw)⟩)
 have E4:h4.edges=h1.edges:=by rw[n4,n3,n2]
 have L4:∀y,lk GE.id h4.edges y=if y∈D1 then none else lk GE.id a.edges y:=fun y=>by rw[E4];exact e1 y
 obtain⟨h5,r5,k5,n5,e5⟩:=AhC (D:=b.edges.filter (BZ a.edges)) k4 (fun x hx=>by
  have hx:=(List.mem_filter.1 hx).1
  have hv:=hb.e x hx
  obtain⟨⟨p,hp,q1⟩,⟨r,hr,q2⟩⟩:=hb.ends x hx
  refine⟨hv.id,by rw[← q1];exact(hb.n p hp).id,by rw[← q2];exact(hb.n r hr).id,hv.ty,?_,?_⟩
  ·obtain⟨m,m1,_⟩:=e4 p hp;exact⟨m,(EF m1).1,by rw[(EF m1).2,q1]⟩
  ·obtain⟨m,m1,_⟩:=e4 r hr;exact⟨m,(EF m1).1,by rw[(EF m1).2,q2]⟩) (Aaf ibE _) (fun x hx=>by
  obtain⟨hx,hg⟩:=List.mem_filter.1 hx
  rw[L4]
  split
  ·rfl
  rename_i hn
  cases hq:lk GE.id a.edges x.id with
  |none=>rfl
  |some y=>
   rw[Ic hq]at hg
   exact absurd ((mD1 _).2 ⟨y,(EF hq).1,by rw[Ic (y:=x) (by rw[(EF hq).2];exact Di Ak ibE hx rfl),YT];exact hg,(EF hq).2⟩) hn) (by
  have:=List.length_filter_le (BZ a.edges) b.edges
  rw[E4];omega)
 obtain⟨h6,r6,k6,n6,e6,o6⟩:=Aec (E:=a.edges) ha.e (B:=b.edges) k5 hb.e (NT Ak (EI ibE)) (fun n hn=>by
  rw[e5]
  have hF:Inc BX GE.id (b.edges.filter (BZ a.edges)):=ibE.filter _
  unfold KO
  cases hq:a.edges.find? (XI n.id)with
  |none=>
   have hq:lk GE.id a.edges n.id=none:=hq
   rw[Di Ak hF (List.mem_filter.2 ⟨hn,SC hq⟩) rfl]
   exact⟨_,rfl,⟨rfl,rfl,rfl⟩,rfl⟩
  |some y=>
   have hq:lk GE.id a.edges n.id=some y:=hq
   show∃m:GE,_∧_∧m.props=if Ci n y=true then[]else y.props
   by_cases hm:Ci n y=true
   ·rw[Di Ak hF (List.mem_filter.2 ⟨hn,by rw[Ic hq];exact hm⟩) rfl,if_pos hm]
    exact⟨_,rfl,⟨rfl,rfl,rfl⟩,rfl⟩
   ·rw[if_neg hm]
    have hm:=Bool.not_eq_true _▸hm
    have h0:lk GE.id (b.edges.filter (BZ a.edges)) n.id=none:=KE.2 fun w hw e=>by
        obtain⟨w1,w2⟩:=List.mem_filter.1 hw
        have:=Di Ak ibE w1 e
        rw[Di Ak ibE hn rfl]at this
        cases this
        rw[Ic hq,hm]at w2;cases w2
    have hyn:n.id∉D1:=fun h=>by
        obtain⟨x,x1,x2,x3⟩:=(mD1 _).1 h
        have:=Di Ak iaE x1 x3
        rw[hq]at this
        cases this
        rw[Ic (y:=n) (by rw[x3];exact Di Ak ibE hn rfl),YT,hm]at x2;cases x2
    rw[h0,L4,if_neg hyn,hq]
    have:=AbN hm
    exact⟨y,rfl,⟨this.1.symm,this.2.1.symm,this.2.2.symm⟩,rfl⟩)
 have AlL:DT a b=(D1.map (fun z=>DU 7 z [])++D2.map (fun z=>DU 2 z []))++((D3.map (fun z=>DU 1 z [])++b.nodes.flatMap (H9 a.nodes))++((b.edges.filter (BZ a.edges)).map newE++b.edges.flatMap (D8 a.edges))):=by
  unfold DT H8 P7 Ro
  rw[hD1,hD2,hD3,List.map_map,List.map_map,List.map_map]
  rfl
 refine⟨h6,?_,k6,?_,?_⟩
 ·rw[AlL]
  exact Hq (Hq r1 r2) (Hq (Hq r3 r4) (Hq r5 r6))
 ·rw[n6,n5]
  refine Ac0 Ak k4.iN ibN (fun m hm=>?_) (fun n hn=>?_)
  ·have h0:=Di Ak k4.iN hm rfl
   by_cases hq:m.id∈b.nodes.map GN.id
   ·obtain⟨n,hn,e⟩:=List.mem_map.1 hq
    obtain⟨m',m1,m2⟩:=e4 n hn
    rw[e,h0]at m1
    cases m1
    exact⟨n,hn,e,m2⟩
   ·rw[g4 _ hq]at h0;cases h0
  ·obtain⟨m,m1,_⟩:=e4 n hn
   exact⟨m,(EF m1).1,(EF m1).2⟩
 ·refine Ac0 Ak k6.iE ibE (fun m hm=>?_) (fun n hn=>?_)
  ·have h0:=Di Ak k6.iE hm rfl
   by_cases hq:m.id∈b.edges.map GE.id
   ·obtain⟨n,hn,e⟩:=List.mem_map.1 hq
    obtain⟨m',m1,m2⟩:=e6 n hn
    rw[e,h0]at m1
    cases m1
    exact⟨n,hn,e,m2⟩
   ·have h5n:lk GE.id (b.edges.filter (BZ a.edges)) m.id=none:=KE.2 fun w hw e=>hq (by rw[← e];exact List.mem_map_of_mem (List.mem_filter.1 hw).1)
    rw[o6 _ hq,e5,h5n,L4]at h0
    have h0:(if m.id∈D1 then none else lk GE.id a.edges m.id)=some m:=h0
    split at h0
    ·cases h0
    rename_i hn1
    have hnb:lk GE.id b.edges m.id=none:=KE.2 fun w hw e=>hq (by rw[← e];exact List.mem_map_of_mem hw)
    exact absurd ((mD1 _).2 ⟨m,(EF h0).1,SC hnb,rfl⟩) hn1
  ·obtain⟨m,m1,_⟩:=e6 n hn
   exact⟨m,(EF m1).1,(EF m1).2⟩
theorem AeN {op id fr to:Int} {k:List UInt8}:Ld (GC.mk op id fr to k Z0).v:=AdQ
theorem NZ {op id:Int} {l m:List (List UInt8)}:∀c∈AQ op id l m,Ld c.v:=fun c hc=>by
 obtain⟨x,_,rfl⟩:=List.mem_map.1 hc
 exact AeN
theorem UO {op id:Int} {a b:List GP} (h:IK b):∀c∈valuesL op id a b,Ld c.v:=fun c hc=>by
 obtain⟨x,hx,rfl⟩:=List.mem_map.1 hc
 have:=h.2 x (List.mem_filter.1 hx).1
 exact⟨this.1.2,this.2⟩
theorem Js {a b:GG} (hb:CX b):∀c∈DT a b,Ld c.v:=fun c hc=>by
 rcases List.mem_append.1 hc with h|h
 ·rcases List.mem_append.1 h with h|h<;>(obtain ⟨x,_,rfl⟩:=List.mem_map.1 h;exact AeN)
 ·rcases List.mem_append.1 h with h|h
  ·rcases List.mem_append.1 h with h|h
   ·obtain⟨x,_,rfl⟩:=List.mem_map.1 h;exact AeN
   ·obtain⟨n,hn,h⟩:=List.mem_flatMap.1 h
    have hg:=(hb.nodes n hn).2.2.2.1
    rcases List.mem_append.1 h with h|h
    ·exact NZ c h
    ·rcases List.mem_append.1 h with h|h
     ·exact NZ c h
     ·rcases List.mem_append.1 h with h|h
      ·exact NZ c h
      ·exact UO hg c h
  ·rcases List.mem_append.1 h with h|h
   ·obtain⟨x,_,rfl⟩:=List.mem_map.1 h;exact AeN
   ·obtain⟨n,hn,h⟩:=List.mem_flatMap.1 h
    rcases List.mem_append.1 h with h|h
    ·exact NZ c h
    ·exact UO (hb.edges n hn).2.2.1 c h
theorem Aeb {α β:Type} {f:α→List β} {l:List α} {k:Nat} (h:∀x∈l,(f x).length≤k):(l.flatMap f).length≤k*l.length:=by
 induction l with
 |nil=>simp
 |cons a l ih=>
  have h1:=h a (by simp)
  have h2:=ih fun x hx=>h x (by simp[hx])
  rw[List.flatMap_cons,List.length_append,List.length_cons,Nat.mul_add]
  omega
def QH (Q:GV→Prop) (g:GG):Prop:=(∀ n∈g.nodes,∀p∈n.props,Q p.v)∧∀e∈g.edges,∀p∈e.props,Q p.v
theorem QH.Lu {Q:GV→Prop} {g:GG} (h:QH Q g) {n:GN} (hn:∀p∈n.props,Q p.v):QH Q {g with nodes:=A8 BX GN.id n g.nodes}:=
 ⟨fun m hm=>by
  rcases Bq Ak hm with rfl|hm
  ·exact hn
  ·exact h.1 m hm,h.2⟩
theorem QH.Tn {Q:GV→Prop} {g:GG} (h:QH Q g) {n:GE} (hn:∀p∈n.props,Q p.v):QH Q {g with edges:=A8 BX GE.id n g.edges}:=
 ⟨h.1,fun m hm=>by
  rcases Bq Ak hm with rfl|hm
  ·exact hn
  ·exact h.2 m hm⟩
theorem QH.step {Q:GV→Prop} {g:GG} {c:GC} (h:QH Q g) (hc:Q c.v):QH Q (stepG g c).2:=by
 unfold stepG
 split
 ·exact h
 split
 ·unfold Ba
  split
  ·split
   ·exact h
   split
   ·refine⟨fun m hm=>?_,h.2⟩
    rcases Bq Ak hm with rfl|hm
    ·intro p hp;cases hp
    ·exact h.1 m hm
   ·exact h
  split
  ·exact h
  rename_i n hf
  have hn:=h.1 n (List.mem_of_find?_eq_some hf)
  split
  ·split
   ·exact h
   ·exact⟨fun m hm=>h.1 m (Ce hm),h.2⟩
  split
  ·split
   ·exact h
   split
   ·exact h.Lu hn
   ·exact h
  split
  ·split
   ·exact h.Lu hn
   ·exact h
  split
  ·exact h.Lu fun p hp=>hn p (Ce hp)
  split
  ·refine h.Lu fun p hp=>?_
   rcases Bq Ai hp with rfl|hp
   ·exact hc
   ·exact hn p hp
  ·exact h
 ·unfold BD
  split
  ·split
   ·exact h
   split
   ·split
    ·refine⟨h.1,fun m hm=>?_⟩
     rcases Bq Ak hm with rfl|hm
     ·intro p hp;cases hp
     ·exact h.2 m hm
    ·exact h
   ·exact h
  split
  ·exact h
  rename_i n hf
  have hn:=h.2 n (List.mem_of_find?_eq_some hf)
  split
  ·exact⟨h.1,fun m hm=>h.2 m (Ce hm)⟩
  split
  ·exact h.Tn fun p hp=>hn p (Ce hp)
  split
  ·refine h.Tn fun p hp=>?_
   rcases Bq Ai hp with rfl|hp
   ·exact hc
   ·exact hn p hp
  ·exact h
theorem QH.run {Q:GV→Prop} {L:List GC}:∀{g h:GG},QH Q g→(∀ c∈L,Q c.v)→FT g L=some h→QH Q h:=by
 induction L with
 |nil=>intro g h k _ e;cases e;exact k
 |cons c L ih=>
  intro g h k hc e
  rw[FT]at e
  split at e
  ·exact ih (k.step (hc c (by simp))) (fun x hx=>hc x (by simp[hx])) e
  ·cases e
theorem RG {g:GG} (a:Ef g) (v:QH Ld g):RX g:=
 ⟨by have:=a.lN;omega,by have:=a.lE;omega,fun n hn=>⟨by have:=(a.aN n hn).lL;omega,by have:=(a.aN n hn).lP;omega,v.1 n hn⟩,fun e he=>⟨by have:=(a.aE e he).lP;omega,v.2 e he⟩⟩
theorem AcD {g:GG} (h:RX g):QH Ld g:=⟨fun n hn=>(h.2.2.1 n hn).2.2,fun e he=>(h.2.2.2 e he).2⟩
theorem ZL {op z:Int} {x:List UInt8} (h0:I64 op) (h1:I64 z) (h2:Ln x):(DU op z x).ok:=⟨h0,h1,by unfold I64 DU;dsimp only;omega,by unfold I64 DU;dsimp only;omega,h2,AdQ.1⟩
theorem XY (n:Int) (h:0≤n∧n≤10):I64 n:=by unfold I64;omega
theorem PO {op z:Int} {l m:List (List UInt8)} (h0:I64 op) (h1:I64 z) (h2:∀x∈l,Ln x):∀c∈AQ op z l m,c.ok:=fun c hc=>by
 obtain⟨x,hx,rfl⟩:=List.mem_map.1 hc
 exact ZL h0 h1 (h2 x (List.mem_filter.1 hx).1)
theorem Xc {op z:Int} {a b:List GP} (h0:I64 op) (h1:I64 z) (h2:∀p∈b,p.ok):∀c∈valuesL op z a b,c.ok:=fun c hc=>by
 obtain⟨x,hx,rfl⟩:=List.mem_map.1 hc
 have:=h2 x (List.mem_filter.1 hx).1
 exact⟨h0,h1,by unfold I64;dsimp only;omega,by unfold I64;dsimp only;omega,this.1,this.2⟩
theorem Aea {P:List GP} (h:∀p∈P,p.ok):∀x∈keysOf P,Ln x:=fun x hx=>by
 obtain⟨p,hp,rfl⟩:=List.mem_map.1 hx
 exact(h p hp).1
theorem Yr {a b:GG} (ha:a.ok) (hb:b.ok):∀c∈DT a b,c.ok:=fun c hc=>by
 obtain⟨-,-,a3,-,-,a6,-⟩:=ha
 obtain⟨-,-,b3,-,-,b6,-⟩:=hb
 have l0:Ln ([]:List UInt8):=by simp[Ln]
 rcases List.mem_append.1 hc with h|h
 ·rcases List.mem_append.1 h with h|h
  ·obtain⟨x,hx,rfl⟩:=List.mem_map.1 h
   exact ZL (XY 7 (by omega)) (a6 x (List.mem_filter.1 hx).1).1 l0
  ·obtain⟨x,hx,rfl⟩:=List.mem_map.1 h
   exact ZL (XY 2 (by omega)) (a3 x (List.mem_filter.1 hx).1).1 l0
 rcases List.mem_append.1 h with h|h
 ·rcases List.mem_append.1 h with h|h
  ·obtain⟨x,hx,rfl⟩:=List.mem_map.1 h
   exact ZL (XY 1 (by omega)) (b3 x (List.mem_filter.1 hx).1).1 l0
  ·obtain⟨n,hn,h⟩:=List.mem_flatMap.1 h
   have ho:=b3 n hn
   have hw:(∀ x∈(Fg a.nodes n).labels,Ln x)∧∀p∈(Fg a.nodes n).props,p.ok:=by
        unfold Fg
        cases hq:a.nodes.find? (X9 n.id)with
        |none=>exact⟨fun x hx=>(by cases hx),fun x hx=>by cases hx⟩
        |some w=>
         have hw:=a3 w (List.mem_of_find?_eq_some hq)
         exact⟨hw.2.2.2.1,hw.2.2.2.2.2.2⟩
   rcases List.mem_append.1 h with h|h
   ·exact PO (XY 4 (by omega)) ho.1 hw.1 c h
   rcases List.mem_append.1 h with h|h
   ·exact PO (XY 5 (by omega)) ho.1 (Aea hw.2) c h
   rcases List.mem_append.1 h with h|h
   ·exact PO (XY 3 (by omega)) ho.1 ho.2.2.2.1 c h
   ·exact Xc (XY 5 (by omega)) ho.1 ho.2.2.2.2.2.2 c h
 ·rcases List.mem_append.1 h with h|h
  ·obtain⟨x,hx,rfl⟩:=List.mem_map.1 h
   have ho:=b6 x (List.mem_filter.1 hx).1
   exact⟨XY 6 (by omega),ho.1,ho.2.1,ho.2.2.1,ho.2.2.2.1,AdQ.1⟩
  ·obtain⟨n,hn,h⟩:=List.mem_flatMap.1 h
   have ho:=b6 n hn
   have hw:∀p∈KO a.edges n,p.ok:=by
        unfold KO
        cases hq:a.edges.find? (XI n.id)with
        |none=>exact fun x hx=>by cases hx
        |some w=>
         show∀p∈(if Ci n w=true then[]else w.props),p.ok
         split
         ·exact fun x hx=>by cases hx
         ·exact(a6 w (List.mem_of_find?_eq_some hq)).2.2.2.2.2.2
   rcases List.mem_append.1 h with h|h
   ·exact PO (XY 8 (by omega)) ho.1 (Aea hw) c h
   ·exact Xc (XY 8 (by omega)) ho.1 ho.2.2.2.2.2.2 c h
theorem PS {op z:Int} {l m:List (List UInt8)}:(AQ op z l m).length≤l.length:=by
 unfold AQ;rw[List.length_map];exact List.length_filter_le _ _
theorem Xd {op z:Int} {a b:List GP}:(valuesL op z a b).length≤b.length:=by
 unfold valuesL;rw[List.length_map];exact List.length_filter_le _ _
theorem ND {a b:GG} (ha:VG a) (hb:VG b):(DT a b).length<2^62:=by
 have h1:=ha.ask.lN
 have h2:=ha.ask.lE
 have h3:=hb.ask.lN
 have h4:=hb.ask.lE
 have f1:=List.length_filter_le (BZ b.edges) a.edges
 have f2:=List.length_filter_le (Ej b.nodes) a.nodes
 have f3:=List.length_filter_le (Ej a.nodes) b.nodes
 have f4:=List.length_filter_le (BZ a.edges) b.edges
 have kl:∀P:List GP,(keysOf P).length=P.length:=fun P=>by unfold keysOf;rw[List.length_map]
 have f5:(b.nodes.flatMap (H9 a.nodes)).length≤48*b.nodes.length:=Aeb fun n hn=>by
  have hn:=(hb.n n hn).a
  have hw:(Fg a.nodes n).labels.length≤8∧(Fg a.nodes n).props.length≤16:=by
   unfold Fg
   cases hq:a.nodes.find? (X9 n.id)with
   |none=>exact⟨by simp[N0],by simp[N0]⟩
   |some w=>exact⟨(ha.n w (List.mem_of_find?_eq_some hq)).a.lL,(ha.n w (List.mem_of_find?_eq_some hq)).a.lP⟩
  have g1:=PS (op:=4) (z:=n.id) (l:=(Fg a.nodes n).labels) (m:=n.labels)
  have g2:=PS (op:=5) (z:=n.id) (l:=keysOf (Fg a.nodes n).props) (m:=keysOf n.props)
  have g3:=PS (op:=3) (z:=n.id) (l:=n.labels) (m:=(Fg a.nodes n).labels)
  have g4:=Xd (op:=5) (z:=n.id) (a:=(Fg a.nodes n).props) (b:=n.props)
  rw[kl]at g2
  have:=hn.lL
  have:=hn.lP
  unfold H9
  simp only[List.length_append]
  omega
 have f6:(b.edges.flatMap (D8 a.edges)).length≤32*b.edges.length:=Aeb fun n hn=>by
  have hn:=(hb.e n hn).a
  have hw:(KO a.edges n).length≤16:=by
   unfold KO
   cases hq:a.edges.find? (XI n.id)with
   |none=>simp
   |some w=>
    show(if Ci n w=true then[]else w.props).length≤16
    split
    ·simp
    ·exact(ha.e w (List.mem_of_find?_eq_some hq)).a.lP
  have g2:=PS (op:=8) (z:=n.id) (l:=keysOf (KO a.edges n)) (m:=keysOf n.props)
  have g4:=Xd (op:=8) (z:=n.id) (a:=KO a.edges n) (b:=n.props)
  rw[kl]at g2
  have:=hn.lP
  unfold D8
  simp only[List.length_append]
  omega
 unfold DT H8 P7 Ro
 simp only[List.length_append,List.length_map]
 omega
theorem Aay {l:List (List UInt8)} (h:Inc Op.bytesLess id l):rises l:=fun j hj=>by
 have:=h.get (show j<j+1 by omega) hj
 simp only[id]at this
 rw[Bool.or_eq_false_iff]
 constructor
 ·cases hb:Op.bytesLess l[j+1] l[j]with
  |false=>rfl
  |true=>have:=Ai.tr _ _ _ this hb;rw[Ai.Oc]at this;cases this
 ·rw[beq_eq_false_iff_ne]
  intro e
  rw[e,Ai.Oc]at this;cases this
theorem Acj {P:List GP} (h:Inc Op.bytesLess GP.key P):rises (keysOf P):=Aay (by have:=EI h;unfold Inc;exact this)
theorem Aaz {L:List (List UInt8)} {P:List GP} (h1:L.length≤8) (h2:P.length≤16) (h3:allNames L) (h4:allNames (keysOf P)) (h5:Inc Op.bytesLess id L) (h6:Inc Op.bytesLess GP.key P) (h7:allPlain P):DV L P=0:=by
 unfold DV
 rw[if_neg (by omega),if_neg (fun h=>h ⟨h3,h4⟩),if_neg (fun h=>h ⟨Aay h5,Acj h6⟩),if_neg (fun h=>h h7)]
structure Chk (g:GG):Prop where
 vg:VG g
 nx:Hy g
 n:∀n∈g.nodes,n.id<g.BF
 e:∀n∈g.edges,n.id<g.BA
theorem Zk {g:GG} (h:AZ g=0):Chk g:=by
 have hv:=Aqj h
 obtain⟨hf,hn,hN,hE⟩:=LU h
 refine⟨hv,hn,fun n hm=>?_,fun n hm=>?_⟩
 ·obtain⟨i,hi,rfl⟩:=List.getElem_of_mem hm
  exact(KP hi (hN i hi)).2.2.1
 ·obtain⟨i,hi,rfl⟩:=List.getElem_of_mem hm
  exact(MZ hi (hE i hi)).2.2.1
theorem Tc {g:GG} (h:Chk g):AZ g=0:=by
 have a:=h.vg.ask
 have hn:∀k,k<g.nodes.length→ER g.nodes g.BF k=0:=fun k hk=>by
  have hm:=List.getElem_mem hk
  have v:=h.vg.n _ hm
  rw[AaB hk (fun h0 h1=>by have:=a.iN.get (show k-1<k by omega) hk;simp only[BX,decide_eq_true_eq]at this;omega) (by have:=v.id.1;have:=h.n _ hm;omega)]
  exact Aaz v.a.lL v.a.lP v.nl v.nk v.a.iL v.a.iP v.pl
 have he:∀k,k<g.edges.length→EX g.nodes g.edges g.BA k=0:=fun k hk=>by
  have hm:=List.getElem_mem hk
  have v:=h.vg.e _ hm
  obtain⟨⟨p,hp,e1⟩,⟨q,hq,e2⟩⟩:=h.vg.ends _ hm
  rw[AaC hk (fun h0 h1=>by have:=a.iE.get (show k-1<k by omega) hk;simp only[BX,decide_eq_true_eq]at this;omega) (by have:=v.id.1;have:=h.e _ hm;omega) ⟨List.mem_map.2 ⟨p,hp,e1⟩,List.mem_map.2 ⟨q,hq,e2⟩⟩ v.ty]
  exact Aaz (by simp) v.a.lP (fun s hs=>by cases hs) v.nk List.Pairwise.nil v.a.iP v.pl
 have:=Ack ⟨a.lN,a.lE⟩ h.nx hn he
 simp only[AV.int.injEq,true_and]at this
 exact this.symm
theorem Chk.Lu {g:GG} (h:Chk g) {m:GN} (hm:VN m) (hx:∃n∈g.nodes,n.id=m.id):Chk {g with nodes:=A8 BX GN.id m g.nodes}:=by
 obtain⟨n0,hn0,e0⟩:=hx
 refine⟨⟨h.vg.ask.Lu hm.a ⟨n0,hn0,e0⟩,fun n hn=>?_,h.vg.e,fun e he=>?_⟩,h.nx,fun n hn=>?_,h.e⟩
 ·rcases Bq Ak hn with rfl|hn
  ·exact hm
  ·exact h.vg.n n hn
 ·have hk:∀z,(∃ n∈g.nodes,n.id=z)→∃n∈A8 BX GN.id m g.nodes,n.id=z:=fun z ⟨n,hn,e⟩=>by
   by_cases q:z=m.id
   ·exact⟨m,(KT Ak).2 (.inl rfl),q.symm⟩
   ·exact⟨n,(KT Ak).2 (.inr ⟨hn,by rw[show GN.id n=z from e];exact q⟩),e⟩
  exact⟨hk _ (h.vg.ends e he).1,hk _ (h.vg.ends e he).2⟩
 ·rcases Bq Ak hn with rfl|hn
  ·have:=h.n n0 hn0;rw[e0]at this;exact this
  ·exact h.n n hn
theorem Chk.Tn {g:GG} (h:Chk g) {m n0:GE} (hm:VE m) (hn0:n0∈g.edges) (e0:n0.id=m.id) (e1:n0.fr=m.fr) (e2:n0.to=m.to):Chk {g with edges:=A8 BX GE.id m g.edges}:=by
 refine⟨⟨h.vg.ask.Tn hm.a ⟨n0,hn0,e0⟩,h.vg.n,fun n hn=>?_,fun e he=>?_⟩,h.nx,h.n,fun n hn=>?_⟩
 ·rcases Bq Ak hn with rfl|hn
  ·exact hm
  ·exact h.vg.e n hn
 ·rcases Bq Ak he with rfl|he
  ·rw[← e1,←e2];exact h.vg.ends n0 hn0
  ·exact h.vg.ends e he
 ·rcases Bq Ak hn with rfl|hn
  ·have:=h.e n0 hn0;rw[e0]at this;exact this
  ·exact h.e n hn
theorem Ae3 {x:List UInt8} {l:List (List UInt8)} (hx:isName x) (hl:allNames l):allNames (A8 Op.bytesLess id x l):=fun s hs=>by
 rcases Bq Ai hs with rfl|hs
 ·exact hx
 ·exact hl s hs
theorem AaD {x:GP} {l:List GP} (hx:isName x.key) (hl:allNames (keysOf l)):allNames (keysOf (A8 Op.bytesLess GP.key x l)):=fun s hs=>by
 obtain⟨p,hp,rfl⟩:=List.mem_map.1 hs
 rcases Bq Ai hp with rfl|hp
 ·exact hx
 ·exact hl _ (List.mem_map_of_mem hp)
theorem AaE {x:List UInt8} {l:List GP} (hl:allNames (keysOf l)):allNames (keysOf (Cc Op.bytesLess GP.key x l)):=fun s hs=>by
 obtain⟨p,hp,rfl⟩:=List.mem_map.1 hs
 exact hl _ (List.mem_map_of_mem (Ce hp))
theorem Yb {x:GP} {l:List GP} (hx:DW x.v) (hl:allPlain l):allPlain (A8 Op.bytesLess GP.key x l):=fun p hp=>by
 rcases Bq Ai hp with rfl|hp
 ·exact hx
 ·exact hl p hp
theorem AaF {a b:Int} (ha:Jw a) (hb:1≤b∧b≤1000001):1≤(if a+1>b then a+1 else b)∧(if a+1>b then a+1 else b)≤1000001:=by unfold Jw at ha;split<;>omega
theorem Amh {a b c:Int} (h:a<b):a<(if c>b then c else b):=by split<;>omega
theorem Agt {a b c:Int} (h:a<c):a<(if c>b then c else b):=by split<;>omega
theorem VK {g:GG} {c:GC} (h:Chk g):Chk (stepG g c).2:=by
 have ha:=h.vg.ask
 have hstep:=ha.step (c:=c)
 unfold stepG at hstep ⊢
 split
 ·exact h
 rename_i hk
 rw[if_neg hk]at hstep
 obtain⟨hop,hid,hnm,h6,hvl⟩:=Ae1 (Classical.not_not.1 hk)
 split
 ·rename_i h5
  rw[if_pos h5]at hstep
  unfold Ba at hstep ⊢
  split
  ·rename_i h1
   rw[if_pos h1]at hstep
   split
   ·exact h
   rename_i hx
   rw[if_neg hx]at hstep
   split
   ·rename_i hl
    rw[if_pos hl]at hstep
    have hb:VN ⟨c.id,false,[],false,[]⟩:=⟨hid,fun s hs=>(by cases hs),fun s hs=>(by cases hs),fun s hs=>(by cases hs),⟨List.Pairwise.nil,by simp,List.Pairwise.nil,by simp⟩⟩
    refine⟨⟨hstep,fun n hn=>?_,h.vg.e,fun e he=>?_⟩,?_,fun n hn=>?_,h.e⟩
    ·rcases Bq Ak hn with rfl|hn
     ·exact hb
     ·exact h.vg.n n hn
    ·have hkp:∀z,(∃ n∈g.nodes,n.id=z)→∃n∈A8 BX GN.id ⟨c.id,false,[],false,[]⟩ g.nodes,n.id=z:=fun z ⟨n,hn,e⟩=>⟨n,(KT Ak).2 (.inr ⟨hn,fun q=>hx ⟨n,hn,q⟩⟩),e⟩
     exact⟨hkp _ (h.vg.ends e he).1,hkp _ (h.vg.ends e he).2⟩
    ·have:=AaF hid ⟨h.nx.1,h.nx.2.1⟩
     exact⟨this.1,this.2,h.nx.2.2⟩
    ·rcases Bq Ak hn with rfl|hn
     ·exact Agt (by show c.id<c.id+1;omega)
     ·exact Amh (h.n n hn)
   ·exact h
  rename_i hop1
  split
  ·exact h
  rename_i n hf
  obtain⟨hn,hz⟩:=Et hf
  have hz:=of_decide_eq_true hz
  have hv:=h.vg.n n hn
  rw[if_neg hop1,hf]at hstep
  split
  ·split
   ·exact h
   rename_i hu
   refine⟨⟨?_,fun n hn=>h.vg.n n (Ce hn),h.vg.e,fun e he=>?_⟩,h.nx,fun n hn=>h.n n (Ce hn),h.e⟩
   ·exact{ha with lN:=Nat.le_trans (Dz Ak) ha.lN,iN:=EJ Ak ha.iN,aN:=fun m hm=>ha.aN m (Ce hm)}
   ·have hkp:∀z,z≠c.id→(∃ n∈g.nodes,n.id=z)→∃n∈Cc BX GN.id c.id g.nodes,n.id=z:=fun z q ⟨n,hn,e⟩=>⟨n,(Na Ak).2 ⟨hn,by rw[show GN.id n=z from e];exact q⟩,e⟩
    exact⟨hkp _ (fun q=>hu ⟨e,he,.inl q⟩) (h.vg.ends e he).1,hkp _ (fun q=>hu ⟨e,he,.inr q⟩) (h.vg.ends e he).2⟩
  split
  ·rename_i h3
   split
   ·exact h
   split
   ·exact h.Lu ⟨hv.id,Ae3 (hnm (.inl h3)) hv.nl,hv.nk,hv.pl,⟨EK Ai hv.a.iL,Nat.le_trans (EC Ai) (by omega),hv.a.iP,hv.a.lP⟩⟩ ⟨n,hn,rfl⟩
   ·exact h
  split
  ·split
   ·exact h.Lu ⟨hv.id,fun s hs=>hv.nl s (Ce hs),hv.nk,hv.pl,⟨EJ Ai hv.a.iL,Nat.le_trans (Dz Ai) hv.a.lL,hv.a.iP,hv.a.lP⟩⟩ ⟨n,hn,rfl⟩
   ·exact h
  split
  ·exact h.Lu ⟨hv.id,hv.nl,AaE hv.nk,fun p hp=>hv.pl p (Ce hp),⟨hv.a.iL,hv.a.lL,EJ Ai hv.a.iP,Nat.le_trans (Dz Ai) hv.a.lP⟩⟩ ⟨n,hn,rfl⟩
  split
  ·rename_i h2 h3 h4 hnn hx
   have h5:c.op=5:=by omega
   refine h.Lu ⟨hv.id,hv.nl,AaD (hnm (by unfold Oi;omega)) hv.nk,Yb ((hvl (.inl h5)).resolve_left hnn) hv.pl,⟨hv.a.iL,hv.a.lL,EK Ai hv.a.iP,?_⟩⟩ ⟨n,hn,rfl⟩
   rcases hx with hx|hx
   ·exact Nat.le_trans (Io Ai hx) hv.a.lP
   ·exact Nat.le_trans (EC Ai) (by omega)
  ·exact h
 ·rename_i h5
  rw[if_neg h5]at hstep
  unfold BD at hstep ⊢
  split
  ·rename_i h6'
   rw[if_pos h6']at hstep
   split
   ·exact h
   rename_i hx
   rw[if_neg hx]at hstep
   split
   ·rename_i Ami
    rw[if_pos Ami]at hstep
    split
    ·rename_i hl
     rw[if_pos hl]at hstep
     have hb:VE ⟨c.id,c.fr,c.to,c.name,false,[]⟩:=⟨hid,hnm (by unfold Oi;omega),fun s hs=>(by cases hs),fun s hs=>(by cases hs),⟨List.Pairwise.nil,by simp⟩⟩
     refine⟨⟨hstep,h.vg.n,fun n hn=>?_,fun e he=>?_⟩,?_,h.n,fun n hn=>?_⟩
     ·rcases Bq Ak hn with rfl|hn
      ·exact hb
      ·exact h.vg.e n hn
     ·rcases Bq Ak he with rfl|he
      ·exact Ami
      ·exact h.vg.ends e he
     ·have:=AaF hid h.nx.2.2
      exact⟨h.nx.1,h.nx.2.1,this.1,this.2⟩
     ·rcases Bq Ak hn with rfl|hn
      ·exact Agt (by show c.id<c.id+1;omega)
      ·exact Amh (h.e n hn)
    ·exact h
   ·exact h
  rename_i hop1
  split
  ·exact h
  rename_i n hf
  obtain⟨hn,hz⟩:=Et hf
  have hv:=h.vg.e n hn
  split
  ·exact⟨⟨{ha with lE:=Nat.le_trans (Dz Ak) ha.lE,iE:=EJ Ak ha.iE,aE:=fun m hm=>ha.aE m (Ce hm)},h.vg.n,fun m hm=>h.vg.e m (Ce hm),fun e he=>h.vg.ends e (Ce he)⟩,h.nx,h.n,fun m hm=>h.e m (Ce hm)⟩
  split
  ·exact h.Tn ⟨hv.id,hv.ty,AaE hv.nk,fun p hp=>hv.pl p (Ce hp),⟨EJ Ai hv.a.iP,Nat.le_trans (Dz Ai) hv.a.lP⟩⟩ hn rfl rfl rfl
  split
  ·rename_i h7 hnn hx
   have h8:c.op=8:=by omega
   refine h.Tn ⟨hv.id,hv.ty,AaD (hnm (by unfold Oi;omega)) hv.nk,Yb ((hvl (.inr h8)).resolve_left hnn) hv.pl,⟨EK Ai hv.a.iP,?_⟩⟩ hn rfl rfl rfl
   rcases hx with hx|hx
   ·exact Nat.le_trans (Io Ai hx) hv.a.lP
   ·exact Nat.le_trans (EC Ai) (by omega)
  ·exact h
def F2 {α β:Type} (R:α→β→Prop):List α→List β→Prop
 |[],[]=>True
 |a::l,b::m=>R a b∧F2 R l m
 |_,_=>False
section
variable {α β γ δ:Type} {R:α→β→Prop} {S:γ→δ→Prop}
theorem F2.map {f:α→γ} {g:β→δ} (hf:∀a b,R a b→S (f a) (g b)):∀{l:List α} {m:List β},F2 R l m→F2 S (l.map f) (m.map g)
 |[],[],_=>trivial
 |a::l,b::m,h=>⟨hf a b h.1,F2.map hf h.2⟩
 |[],_::_,h=>h.elim
 |_::_,[],h=>h.elim
theorem F2.filter {p:α→Bool} {q:β→Bool} (hp:∀a b,R a b→p a=q b):∀{l:List α} {m:List β},F2 R l m→F2 R (l.filter p) (m.filter q)
 |[],[],_=>trivial
 |a::l,b::m,h=>by
  have:=hp a b h.1
  cases hb:p a with
  |true=>rw[List.filter_cons_of_pos hb,List.filter_cons_of_pos (by rw[← this];exact hb)];exact⟨h.1,F2.filter hp h.2⟩
  |false=>rw[List.filter_cons_of_neg (by simp[hb]),List.filter_cons_of_neg (by simp[← this,hb])];exact F2.filter hp h.2
 |[],_::_,h=>h.elim
 |_::_,[],h=>h.elim
theorem F2.mono {T:α→β→Prop} (hf:∀a b,R a b→T a b):∀{l:List α} {m:List β},F2 R l m→F2 T l m
 |[],[],_=>trivial
 |a::l,b::m,h=>⟨hf a b h.1,F2.mono hf h.2⟩
 |[],_::_,h=>h.elim
 |_::_,[],h=>h.elim
theorem F2.len:∀{l:List α} {m:List β},F2 R l m→l.length=m.length
 |[],[],_=>rfl
 |a::l,b::m,h=>by rw[List.length_cons,List.length_cons,F2.len h.2]
 |[],_::_,h=>h.elim
 |_::_,[],h=>h.elim
end
theorem F2.refl {α:Type} {R:α→α→Prop} (h:∀a,R a a):∀l:List α,F2 R l l
 |[]=>trivial
 |a::l=>⟨h a,F2.refl h l⟩
theorem F2.look {α κ:Type} [DecidableEq κ] {key:α→κ} {R:α→α→Prop} (hk:∀a b,R a b→key a=key b) {z:κ}:∀{l m:List α},F2 R l m→(lk key l z=none∧lk key m z=none)∨∃a b,lk key l z=some a∧lk key m z=some b∧R a b
 |[],[],_=>.inl ⟨rfl,rfl⟩
 |a::l,b::m,h=>by
  have e:=hk a b h.1
  unfold lk
  rw[List.find?_cons,List.find?_cons]
  by_cases q:key a=z
  ·rw[decide_eq_true q,decide_eq_true (show key b=z by rw[← e];exact q)]
   exact .inr ⟨a,b,rfl,rfl,h.1⟩
  ·rw[decide_eq_false q,decide_eq_false (show ¬key b=z by rw[← e];exact q)]
   exact F2.look hk h.2
 |[],_::_,h=>h.elim
 |_::_,[],h=>h.elim
end AI
end Go.Proofs.YthnehejdkajjhaaGreatDoor
