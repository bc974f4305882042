/- A script between two graphs leads from the first to the second: plain. -/
import Derived.Test.YtnbibfalljlmfaaGreatDoorDlC
set_option linter.unusedVariables false
set_option maxRecDepth 4000
namespace Go.Proofs.YtnbibfalljlmfaaGreatDoor
namespace AI
section
variable {κ α:Type}
theorem AyV {l:List GN} {z:Int} (h:lk GN.id l z=none):¬∃n∈l,n.id=z:=fun⟨n,hn,e⟩=>Aez.1 h n hn e
theorem Axz {l:List GE} {z:Int} (h:lk GE.id l z=none):¬∃n∈l,n.id=z:=fun⟨n,hn,e⟩=>Aez.1 h n hn e
end
theorem AAn:∀{D:List Int} {h:GG},Ajy h→(∀ z∈D,idG z)→D.Nodup→(∀ z∈D,∃x∈h.edges,x.id=z)→
    ∃h',AaK h (D.map fun z=>mkC 7 z [])=some h'∧Ajy h'∧h'.nodes=h.nodes∧h'.edges.length≤h.edges.length∧∀y,lk GE.id h'.edges y=if y∈D then none else lk GE.id h.edges y
  |[],h,a,_,_,_=>⟨h,rfl,a,rfl,Nat.le_refl _,fun y=>by simp⟩
  | z ::D,h,a,hz,hD,hx=>by
    have hD':=List.nodup_cons.1 hD
    obtain⟨x,hxm,hxi⟩:=hx z (by simp)
    have h1:stepG h (mkC 7 z [])=(0,{h with edges:=AhH ltI GE.id z h.edges}):=by
      rw[AuJ (AAo (by omega) (hz z (by simp))) (show ¬(7:Int)≤5 by decide)]
      exact eG7 (c:=mkC 7 z []) rfl (JD Hu a.iE hxm hxi)
    have a1:=a.step (c:=mkC 7 z [])
    rw[h1]at a1
    obtain⟨h',r,a',e1,el,e2⟩:=AAn (D:=D) a1 (fun y hy=>hz y (by simp[hy])) hD'.2 (fun y hy=>by
      obtain⟨x,hx,e⟩:=hx y (by simp[hy])
      exact⟨x,(Agy Hu).2 ⟨hx,fun e2=>hD'.1 (by rw[← e2,e];exact hy)⟩,e⟩)
    refine⟨h',YJ h1 r,a',e1,Nat.le_trans el (Aee Hu),fun y=>?_⟩
    rw[e2]
    show(if y∈D then none else lk GE.id (AhH ltI GE.id z h.edges) y)=_
    rw[AuK Hu a.iE]
    by_cases q:y∈D
    · rw[if_pos q,if_pos (by simp[q])]
    · rw[if_neg q]
      by_cases q2:y=z
      · rw[if_pos q2,if_pos (by simp[q2])]
      · rw[if_neg q2,if_neg (by simp[q,q2])]
theorem AAp:∀{D:List Int} {h:GG},Ajy h→(∀ z∈D,idG z)→D.Nodup→(∀ z∈D,∃x∈h.nodes,x.id=z)→(∀ e∈h.edges,e.fr∉D∧e.to∉D)→
    ∃h',AaK h (D.map fun z=>mkC 2 z [])=some h'∧Ajy h'∧h'.edges=h.edges∧h'.nodes.length≤h.nodes.length∧∀y,lk GN.id h'.nodes y=if y∈D then none else lk GN.id h.nodes y
  |[],h,a,_,_,_,_=>⟨h,rfl,a,rfl,Nat.le_refl _,fun y=>by simp⟩
  | z ::D,h,a,hz,hD,hx,he=>by
    have hD':=List.nodup_cons.1 hD
    obtain⟨x,hxm,hxi⟩:=hx z (by simp)
    have h1:stepG h (mkC 2 z [])=(0,{h with nodes:=AhH ltI GN.id z h.nodes}):=by
      rw[Anh (AAo (by omega) (hz z (by simp))) (show (2:Int)≤5 by decide)]
      refine nG2 (c:=mkC 2 z []) rfl (JD Hu a.iN hxm hxi) ?_
      rintro⟨e,hm,h|h⟩
      · exact(he e hm).1 (by rw[show e.fr=z from h];simp)
      · exact(he e hm).2 (by rw[show e.to=z from h];simp)
    have a1:=a.step (c:=mkC 2 z [])
    rw[h1]at a1
    obtain⟨h',r,a',e1,el,e2⟩:=AAp (D:=D) a1 (fun y hy=>hz y (by simp[hy])) hD'.2 (fun y hy=>by
      obtain⟨x,hx,e⟩:=hx y (by simp[hy])
      exact⟨x,(Agy Hu).2 ⟨hx,fun e2=>hD'.1 (by rw[← e2,e];exact hy)⟩,e⟩) (fun e hm=>⟨fun q=>(he e hm).1 (by simp[q]),fun q=>(he e hm).2 (by simp[q])⟩)
    refine⟨h',YJ h1 r,a',e1,Nat.le_trans el (Aee Hu),fun y=>?_⟩
    rw[e2]
    show(if y∈D then none else lk GN.id (AhH ltI GN.id z h.nodes) y)=_
    rw[AuK Hu a.iN]
    by_cases q:y∈D
    · rw[if_pos q,if_pos (by simp[q])]
    · rw[if_neg q]
      by_cases q2:y=z
      · rw[if_pos q2,if_pos (by simp[q2])]
      · rw[if_neg q2,if_neg (by simp[q,q2])]
theorem AAq:∀{D:List Int} {h:GG},Ajy h→(∀ z∈D,idG z)→D.Nodup→(∀ z∈D,lk GN.id h.nodes z=none)→h.nodes.length+D.length≤2000→
    ∃h',AaK h (D.map fun z=>mkC 1 z [])=some h'∧Ajy h'∧h'.edges=h.edges∧∀y,lk GN.id h'.nodes y=if y∈D then some ⟨y,false,[],false,[]⟩else lk GN.id h.nodes y
  |[],h,a,_,_,_,_=>⟨h,rfl,a,rfl,fun y=>by simp⟩
  | z ::D,h,a,hz,hD,hx,hl=>by
    have hD':=List.nodup_cons.1 hD
    rw[List.length_cons]at hl
    have h1:stepG h (mkC 1 z [])=(0,{h with nn:=true,nodes:=Tc ltI GN.id ⟨z,false,[],false,[]⟩ h.nodes,AeT:=if z+1>h.AeT then z+1 else h.AeT}):=by
      rw[Anh (AAo (by omega) (hz z (by simp))) (show (1:Int)≤5 by decide)]
      exact nG1 (c:=mkC 1 z []) rfl (AyV (hx z (by simp))) (by omega)
    have a1:=a.step (c:=mkC 1 z [])
    rw[h1]at a1
    have hlk:∀y,lk GN.id (Tc ltI GN.id ⟨z,false,[],false,[]⟩ h.nodes) y=if y=z then some ⟨z,false,[],false,[]⟩else lk GN.id h.nodes y:=fun y=>AhP Hu a.iN
    obtain⟨h',r,a',e1,e2⟩:=AAq (D:=D) a1 (fun y hy=>hz y (by simp[hy])) hD'.2 (fun y hy=>by
      show lk GN.id (Tc ltI GN.id ⟨z,false,[],false,[]⟩ h.nodes) y=none
      rw[hlk,if_neg (fun e=>hD'.1 (by rw[← e];exact hy))]
      exact hx y (by simp[hy])) (by
      have:=Agz (key:=GN.id) Hu (x:=⟨z,false,[],false,[]⟩) (l:=h.nodes)
      show(Tc ltI GN.id ⟨z,false,[],false,[]⟩ h.nodes).length+D.length≤2000
      omega)
    refine⟨h',YJ h1 r,a',e1,fun y=>?_⟩
    rw[e2]
    show(if y∈D then _ else lk GN.id (Tc ltI GN.id ⟨z,false,[],false,[]⟩ h.nodes) y)=_
    rw[hlk]
    by_cases q:y∈D
    · rw[if_pos q,if_pos (by simp[q])]
    · rw[if_neg q]
      by_cases q2:y=z
      · rw[if_pos q2,if_pos (by simp[q2]),q2]
      · rw[if_neg q2,if_neg (by simp[q,q2])]
def bareEd (x:GE):GE:=⟨x.id,x.fr,x.to,x.ty,false,[]⟩
theorem AAr:∀{D:List GE} {h:GG},Ajy h→(∀ x∈D,idG x.id∧idG x.fr∧idG x.to∧isName x.ty∧(∃ n∈h.nodes,n.id=x.fr)∧∃n∈h.nodes,n.id=x.to)→(D.map GE.id).Nodup→(∀ x∈D,lk GE.id h.edges x.id=none)→h.edges.length+D.length≤4000→
    ∃h',AaK h (D.map newE)=some h'∧Ajy h'∧h'.nodes=h.nodes∧∀y,lk GE.id h'.edges y=((lk GE.id D y).map bareEd).or (lk GE.id h.edges y)
  |[],h,a,_,_,_,_=>⟨h,rfl,a,rfl,fun y=>rfl⟩
  | x ::D,h,a,hz,hD,hx,hl=>by
    have hD':=List.nodup_cons.1 hD
    rw[List.length_cons]at hl
    obtain⟨z1,z2,z3,z4,z5,z6⟩:=hz x (by simp)
    have hck:ckC (newE x)=0:=by
      refine ck0 ?_ (fun _=>z4) (fun _=>.inl Ae8)
      rintro(h|h|h|h|h|h)
      · exact h (show (1:Int)≤6∧(6:Int)≤8 by decide)
      · exact h z1
      · exact h.1 (show nmd 6 by unfold nmd;omega)
      · exact h.2 Ae8
      · exact h.2.elim (fun k=>k z2) (fun k=>k z3)
      · exact h.1 rfl
    have h1:stepG h (newE x)=(0,{h with en:=true,edges:=Tc ltI GE.id (bareEd x) h.edges,Afg:=if x.id+1>h.Afg then x.id+1 else h.Afg}):=by
      rw[AuJ hck (show ¬(6:Int)≤5 by decide)]
      exact eG6 (c:=newE x) rfl (Axz (hx x (by simp))) ⟨z5,z6⟩ (by omega)
    have a1:=a.step (c:=newE x)
    rw[h1]at a1
    have hlk:∀y,lk GE.id (Tc ltI GE.id (bareEd x) h.edges) y=if y=x.id then some (bareEd x)else lk GE.id h.edges y:=fun y=>AhP Hu a.iE
    obtain⟨h',r,a',e1,e2⟩:=AAr (D:=D) a1 (fun y hy=>hz y (by simp[hy])) hD'.2 (fun y hy=>by
      show lk GE.id (Tc ltI GE.id (bareEd x) h.edges) y.id=none
      rw[hlk,if_neg (fun e=>hD'.1 (by rw[← e];exact List.mem_map_of_mem hy))]
      exact hx y (by simp[hy])) (by
      have:=Agz (key:=GE.id) Hu (x:=bareEd x) (l:=h.edges)
      show(Tc ltI GE.id (bareEd x) h.edges).length+D.length≤4000
      omega)
    refine⟨h',YJ h1 r,a',e1,fun y=>?_⟩
    rw[e2]
    show((lk GE.id D y).map bareEd).or (lk GE.id (Tc ltI GE.id (bareEd x) h.edges) y)=_
    rw[hlk]
    have e3:lk GE.id (x::D) y=if x.id=y then some x else lk GE.id D y:=by
      unfold lk
      rw[List.find?_cons]
      by_cases q:x.id=y
      · rw[decide_eq_true q,if_pos q]
      · rw[decide_eq_false q,if_neg q]
    rw[e3]
    by_cases q:x.id=y
    · have e4:lk GE.id D y=none:=Aez.2 fun w hw e=>hD'.1 (by rw[q,←e];exact List.mem_map_of_mem hw)
      rw[if_pos q,if_pos q.symm,e4];rfl
    · rw[if_neg q,if_neg (fun e=>q e.symm)]
theorem AAs {N:List GN} (hN:∀n∈N,VN n) (hI:Inc ltI GN.id N):∀{B:List GN} {h:GG},Ajy h→(∀ n∈B,VN n)→(B.map GN.id).Nodup→(∀ n∈B,∃m,lk GN.id h.nodes n.id=some m∧m.labels=(Vx N n).labels∧m.props=(Vx N n).props)→
    ∃h',AaK h (B.flatMap (Aae N))=some h'∧Ajy h'∧h'.edges=h.edges∧(∀ n∈B,∃m,lk GN.id h'.nodes n.id=some m∧SN m n)∧∀y,y∉B.map GN.id→lk GN.id h'.nodes y=lk GN.id h.nodes y
  |[],h,a,_,_,_=>⟨h,rfl,a,rfl,fun _ h=>by simp at h,fun y _=>rfl⟩
  | n ::B,h,a,hv,hD,hm=>by
    have hD':=List.nodup_cons.1 hD
    obtain⟨m,m1,m2,m3⟩:=hm n (by simp)
    have hw:allNames (Vx N n).labels∧allNames (keysOf (Vx N n).props):=by
      unfold Vx
      cases hc:N.find? (isN n.id)with
      |none=>exact⟨fun s hs=>(by cases hs),fun s hs=>by cases hs⟩
      |some w=>exact⟨(hN w (List.mem_of_find?_eq_some hc)).nl,(hN w (List.mem_of_find?_eq_some hc)).nk⟩
    obtain⟨h1,mm,r1,a1,s1⟩:=AAt (f:=lk GN.id h.nodes) (E:=h.edges) (N:=N) ⟨a,m1,fun _ _=>rfl,rfl⟩ (hv n (by simp)) rfl rfl m2 m3 hw.1 hw.2
    obtain⟨h',r,a',e1,e2,e3⟩:=AAs hN hI (B:=B) a1.ask (fun y hy=>hv y (by simp[hy])) hD'.2 (fun y hy=>by
      obtain⟨w,w1,w2,w3⟩:=hm y (by simp[hy])
      refine⟨w,?_,w2,w3⟩
      rw[a1.rest _ fun e=>hD'.1 (by rw[← e];exact List.mem_map_of_mem hy)]
      exact w1)
    refine⟨h',by rw[List.flatMap_cons];exact AaF r1 r,a',e1.trans a1.ed,fun y hy=>?_,fun y hy=>?_⟩
    · rcases List.mem_cons.1 hy with rfl|hy
      · exact⟨mm,by rw[e3 _ hD'.1];exact a1.here,s1⟩
      · exact e2 y hy
    · rw[List.map_cons,List.mem_cons]at hy
      rw[e3 y fun q=>hy (.inr q)]
      exact a1.rest y fun q=>hy (.inl q)
theorem Ayh {E:List GE} (hE:∀n∈E,VE n):∀{B:List GE} {h:GG},Ajy h→(∀ n∈B,VE n)→(B.map GE.id).Nodup→(∀ n∈B,∃m,lk GE.id h.edges n.id=some m∧(m.fr=n.fr∧m.to=n.to∧m.ty=n.ty)∧m.props=AfN E n)→
    ∃h',AaK h (B.flatMap (O8 E))=some h'∧Ajy h'∧h'.nodes=h.nodes∧(∀ n∈B,∃m,lk GE.id h'.edges n.id=some m∧SE m n)∧∀y,y∉B.map GE.id→lk GE.id h'.edges y=lk GE.id h.edges y
  |[],h,a,_,_,_=>⟨h,rfl,a,rfl,fun _ h=>by simp at h,fun y _=>rfl⟩
  | n ::B,h,a,hv,hD,hm=>by
    have hD':=List.nodup_cons.1 hD
    obtain⟨m,m1,m2,m3⟩:=hm n (by simp)
    have hw:allNames (keysOf (AfN E n)):=by
      unfold AfN
      cases hc:E.find? (isE n.id)with
      |none=>exact fun s hs=>by cases hs
      | some w=>
        show allNames (keysOf (if Lr n w=true then[]else w.props))
        split
        · exact fun s hs=>by cases hs
        · exact(hE w (List.mem_of_find?_eq_some hc)).nk
    obtain⟨h1,mm,r1,a1,s1⟩:=AAu (f:=lk GE.id h.edges) (N:=h.nodes) (E:=E) ⟨a,m1,fun _ _=>rfl,rfl⟩ (hv n (by simp)) rfl rfl m2 m3 hw
    obtain⟨h',r,a',e1,e2,e3⟩:=Ayh hE (B:=B) a1.ask (fun y hy=>hv y (by simp[hy])) hD'.2 (fun y hy=>by
      obtain⟨w,w1,w2,w3⟩:=hm y (by simp[hy])
      refine⟨w,?_,w2,w3⟩
      rw[a1.rest _ fun e=>hD'.1 (by rw[← e];exact List.mem_map_of_mem hy)]
      exact w1)
    refine⟨h',by rw[List.flatMap_cons];exact AaF r1 r,a',e1.trans a1.nd,fun y hy=>?_,fun y hy=>?_⟩
    · rcases List.mem_cons.1 hy with rfl|hy
      · exact⟨mm,by rw[e3 _ hD'.1];exact a1.here,s1⟩
      · exact e2 y hy
    · rw[List.map_cons,List.mem_cons]at hy
      rw[e3 y fun q=>hy (.inr q)]
      exact a1.rest y fun q=>hy (.inl q)
end AI
end Go.Proofs.YtnbibfalljlmfaaGreatDoor
