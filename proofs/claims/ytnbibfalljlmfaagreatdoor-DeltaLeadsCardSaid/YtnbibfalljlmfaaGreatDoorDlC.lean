/- The changes of one edge by a script: plain. -/
import Derived.Test.YtnbibfalljlmfaaGreatDoorDlB
set_option linter.unusedVariables false
set_option maxRecDepth 4000
namespace Go.Proofs.YtnbibfalljlmfaaGreatDoor
namespace AI
structure AtE (h:GG) (z:Int) (m:GE) (f:Int→Option GE) (N:List GN):Prop where
  ask:Ajy h
  here:lk GE.id h.edges z=some m
  rest:∀y,y≠z→lk GE.id h.edges y=f y
  nd:h.nodes=N
theorem AtE.put {h:GG} {z:Int} {m m':GE} {f:Int→Option GE} {N:List GN} (a:AtE h z m f N) (hid:m'.id=z) (hn:AHo m'):AtE {h with edges:=Tc ltI GE.id m' h.edges} z m' f N where
  ask:=a.ask.AxA hn ⟨m,(QC a.here).1,by rw[hid];exact(QC a.here).2⟩
  here:=by show lk GE.id (Tc ltI GE.id m' h.edges) z=_;rw[AhP Hu a.ask.iE,if_pos hid.symm]
  rest:=fun y hy=>by show lk GE.id (Tc ltI GE.id m' h.edges) y=_;rw[AhP Hu a.ask.iE,if_neg (by rw[hid];exact hy)];exact a.rest y hy
  nd:=a.nd
theorem AtE.id {h:GG} {z:Int} {m:GE} {f:Int→Option GE} {N:List GN} (a:AtE h z m f N):m.id=z:=(QC a.here).2
theorem AtE.na {h:GG} {z:Int} {m:GE} {f:Int→Option GE} {N:List GN} (a:AtE h z m f N):AHo m:=a.ask.aE m (QC a.here).1
section
variable {z:Int} {f:Int→Option GE} {N:List GN}
theorem AA5 (hz:idG z):∀{D:List (List UInt8)} {h:GG} {m:GE},(∀ x∈D,isName x)→AtE h z m f N→
    ∃h' m',AaK h (D.map (mkC 8 z))=some h'∧AtE h' z m' f N∧(m'.fr=m.fr∧m'.to=m.to∧m'.ty=m.ty)∧∀k,lk GP.key m'.props k=if k∈D then none else lk GP.key m.props k
  |[],h,m,_,a=>⟨h,m,rfl,a,⟨rfl,rfl,rfl⟩,fun y=>by simp⟩
  | x ::D,h,m,hn,a=>by
    have hn0:=a.na
    have h1:stepG h (mkC 8 z x)=(0,{h with edges:=Tc ltI GE.id {m with props:=AhH Op.bytesLess GP.key x m.props} h.edges}):=by
      rw[AuJ (AyB (by omega) hz (hn x (by simp))) (show ¬(8:Int)≤5 by decide)]
      exact eG8n (c:=mkC 8 z x) rfl a.here Ae8
    have a1:=a.put (m':={m with props:=AhH Op.bytesLess GP.key x m.props}) a.id ⟨AcN G7 hn0.iP,Nat.le_trans (Aee G7) hn0.lP⟩
    obtain⟨h',m',r,a',e,hm⟩:=AA5 hz (D:=D) (fun y hy=>hn y (by simp[hy])) a1
    refine⟨h',m',YJ h1 r,a',e,fun k=>?_⟩
    rw[hm]
    show(if k∈D then none else lk GP.key (AhH Op.bytesLess GP.key x m.props) k)=_
    rw[AuK G7 hn0.iP]
    by_cases q:k∈D
    · rw[if_pos q,if_pos (by simp[q])]
    · rw[if_neg q]
      by_cases q2:k=x
      · rw[if_pos q2,if_pos (by simp[q2])]
      · rw[if_neg q2,if_neg (by simp[q,q2])]
theorem AA6 (hz:idG z) {W:List (List UInt8)} (hW:W.length≤16):∀{D:List GP} {h:GG} {m:GE},(keysOf D).Nodup→(∀ p∈D,p.key∈W∧isName p.key∧AjD p.v)→(∀ p∈m.props,p.key∈W)→AtE h z m f N→
    ∃h' m',AaK h (D.map fun p=>⟨8,z,0,0,p.key,p.v⟩)=some h'∧AtE h' z m' f N∧(m'.fr=m.fr∧m'.to=m.to∧m'.ty=m.ty)∧∀k,lk GP.key m'.props k=(lk GP.key D k).or (lk GP.key m.props k)
  |[],h,m,_,_,_,a=>⟨h,m,rfl,a,⟨rfl,rfl,rfl⟩,fun y=>rfl⟩
  | p :: D, h,m,hD,hp,hmW,a=>by
    have hD':=List.nodup_cons.1 hD
    have hn0:=a.na
    obtain⟨p1,p2,p3⟩:=hp p (by simp)
    have hfit:(∃ q∈m.props,GP.key q=p.key)∨m.props.length<16:=by
      by_cases hq:∃q∈m.props,GP.key q=p.key
      · exact .inl hq
      · have h2:(m.props.map GP.key).length<W.length:=AyD (AgA G7 (SY hn0.iP)) (fun y hy=>by
            obtain⟨q,hq,rfl⟩:=List.mem_map.1 hy;exact hmW q hq) p1 (fun hy=>hq (by obtain⟨q,hq,e⟩:=List.mem_map.1 hy;exact⟨q,hq,e⟩))
        rw[List.length_map]at h2
        exact .inr (by omega)
    have h1:stepG h ⟨8,z,0,0,p.key,p.v⟩=(0,{h with edges:=Tc ltI GE.id {m with pn:=true,props:=Tc Op.bytesLess GP.key p m.props} h.edges}):=by
      rw[AuJ (ARJ (by omega) hz p2 p3) (show ¬(8:Int)≤5 by decide)]
      exact eG8 (c:=⟨8,z,0,0,p.key,p.v⟩) rfl a.here (AyC p3) hfit
    have a1:=a.put (m':={m with pn:=true,props:=Tc Op.bytesLess GP.key p m.props}) a.id ⟨Agg G7 hn0.iP,by
        rcases hfit with hx|hx
        · exact Nat.le_trans (AtG G7 hx) hn0.lP
        · exact Nat.le_trans (Agz G7) (by omega)⟩
    obtain⟨h',m',r,a',e,hm⟩:=AA6 hz hW (D:=D) hD'.2 (fun q hq=>hp q (by simp[hq])) (fun q hq=>by
        rcases(Aax G7).1 hq with rfl|hq
        · exact p1
        · exact hmW q hq.1) a1
    refine⟨h',m',YJ h1 r,a',e,fun k=>?_⟩
    rw[hm]
    show(lk GP.key D k).or (lk GP.key (Tc Op.bytesLess GP.key p m.props) k)=_
    rw[AhP G7 hn0.iP]
    have e3:lk GP.key (p::D) k=if p.key=k then some p else lk GP.key D k:=by
      unfold lk
      rw[List.find?_cons]
      by_cases q:p.key=k
      · rw[decide_eq_true q,if_pos q]
      · rw[decide_eq_false q,if_neg q]
    rw[e3]
    by_cases q:p.key=k
    · have e4:lk GP.key D k=none:=Aez.2 fun y hy e=>hD'.1 (by rw[q,←e];exact List.mem_map_of_mem hy)
      rw[if_pos q,if_pos q.symm,e4];rfl
    · rw[if_neg q,if_neg (fun e=>q e.symm)]
end
theorem AAu {h:GG} {z:Int} {m n:GE} {f:Int→Option GE} {N:List GN} {E:List GE} {w:List GP} (a:AtE h z m f N) (hn:VE n) (e:n.id=z) (hw:AfN E n=w) (h1:m.fr=n.fr∧m.to=n.to∧m.ty=n.ty) (h2:m.props=w) (hw2:allNames (keysOf w)):
    ∃h' m',AaK h (O8 E n)=some h'∧AtE h' z m' f N∧SE m' n:=by
  subst e
  unfold O8 Gf valuesL
  rw[hw,←h2]
  have hz:=hn.id
  obtain⟨k2,m2,r2,a2,e2,q2⟩:=AA5 hz (D:=(keysOf m.props).filter fun x=>decide (x∉keysOf n.props)) (fun x hx=>hw2 x (by rw[← h2];exact(List.mem_filter.1 hx).1)) a
  have hp2:∀k,lk GP.key m2.props k=if k∈keysOf m.props∧k∉keysOf n.props then none else lk GP.key m.props k:=fun k=>by
    rw[q2]
    by_cases q:k∈keysOf m.props∧k∉keysOf n.props
    · rw[if_pos q,if_pos (List.mem_filter.2 ⟨q.1,decide_eq_true q.2⟩)]
    · rw[if_neg q,if_neg fun h=>q ⟨(List.mem_filter.1 h).1,of_decide_eq_true (List.mem_filter.1 h).2⟩]
  have hnk:(keysOf n.props).Nodup:=AgA G7 (SY hn.a.iP)
  obtain⟨k4,m4,r4,a4,e4,q4⟩:=AA6 hz (W:=keysOf n.props) (by unfold keysOf;rw[List.length_map];exact hn.a.lP) (D:=n.props.filter fun p=>decide (QK 12 (OA m.props p.key) p.v≠0)) (List.Nodup.sublist (List.filter_sublist.map _) hnk) (fun p hp=>by
      have hp:=(List.mem_filter.1 hp).1
      exact⟨List.mem_map_of_mem hp,hn.nk _ (List.mem_map_of_mem hp),hn.pl p hp⟩) (fun p hp=>by
      have h3:=hp2 p.key
      rw[JD G7 a2.na.iP hp rfl]at h3
      split at h3
      · cases h3
      rename_i hq
      have hpm:=(QC h3.symm).1
      exact Classical.not_not.1 fun h=>hq ⟨List.mem_map_of_mem hpm,h⟩) a2
  refine⟨k4,m4,AaF r2 r4,a4,a4.id,by rw[e4.1,e2.1,h1.1],by rw[e4.2.1,e2.2.1,h1.2.1],by rw[e4.2.2,e2.2.2,h1.2.2],?_⟩
  exact AHp (was:=m.props) a4.na.iP hn.a.iP hn.pl fun k=>by rw[q4,hp2]
end AI
end Go.Proofs.YtnbibfalljlmfaaGreatDoor
