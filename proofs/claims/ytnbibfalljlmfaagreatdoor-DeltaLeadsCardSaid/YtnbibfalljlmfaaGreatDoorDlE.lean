/- A script between two valid graphs leads from the first to the second, and is empty exactly if they are alike: plain. -/
import Derived.Test.YtnbibfalljlmfaaGreatDoorDlD
set_option linter.unusedVariables false
set_option maxRecDepth 4000
namespace Go.Proofs.YtnbibfalljlmfaaGreatDoor
namespace AI
theorem AuN {α:Type} {key:α→Int} {l:List α} (h:Inc ltI key l) (p:α→Bool):((l.filter p).map key).Nodup:=List.Nodup.sublist (List.filter_sublist.map _) (AgA Hu (SY h))
theorem Ayo {N:List GN} {n:GN}:Qx N n=true↔lk GN.id N n.id=none:=by
  unfold Qx
  rw[Option.isNone_iff_eq_none]
  rfl
theorem AuO {E:List GE} {x:GE} (h:lk GE.id E x.id=none):JQ E x=true:=by
  unfold JQ
  rw[show E.find? (isE x.id)=none from h]
theorem Aan {E:List GE} {x y:GE} (h:lk GE.id E x.id=some y):JQ E x=Lr x y:=by
  unfold JQ
  rw[show E.find? (isE x.id)=some y from h]
theorem Aje {x y:GE}:Lr x y=Lr y x:=by
  unfold Lr
  congr 1
  apply propext
  constructor<;>(intro h k;exact h ⟨k.1.symm,k.2.1.symm,k.2.2.symm⟩)
theorem Aw2 {x y:GE} (h:Lr x y=false):x.fr=y.fr∧x.to=y.to∧x.ty=y.ty:=Classical.not_not.1 (of_decide_eq_false h)
theorem leads {a b:GG} (ha:VG a) (hb:VG b) (hN:a.nodes.length+b.nodes.length≤2000) (hE:a.edges.length+b.edges.length≤4000):
    ∃h,AaK a (O1 a b)=some h∧Ajy h∧SG h b:=by
  have iaN:=ha.ask.iN
  have iaE:=ha.ask.iE
  have ibN:=hb.ask.iN
  have ibE:=hb.ask.iE
  obtain⟨D1,hD1⟩:∃D1,D1=(a.edges.filter (JQ b.edges)).map GE.id:=⟨_,rfl⟩
  have mD1:∀z,z∈D1↔∃x∈a.edges,JQ b.edges x=true∧x.id=z:=fun z=>by
    rw[hD1];simp only[List.mem_map,List.mem_filter]
    constructor
    · rintro⟨x,⟨h1,h2⟩,h3⟩;exact⟨x,h1,h2,h3⟩
    · rintro⟨x,h1,h2,h3⟩;exact⟨x,⟨h1,h2⟩,h3⟩
  obtain⟨h1,r1,k1,n1,l1,e1⟩:=AAn (D:=D1) ha.ask (fun z hz=>by obtain⟨x,hx,_,rfl⟩:=(mD1 z).1 hz;exact(ha.e x hx).id) (by rw[hD1];exact AuN iaE _) (fun z hz=>by obtain⟨x,hx,_,e⟩:=(mD1 z).1 hz;exact⟨x,hx,e⟩)
  obtain⟨D2,hD2⟩:∃D2,D2=(a.nodes.filter (Qx b.nodes)).map GN.id:=⟨_,rfl⟩
  have mD2:∀z,z∈D2↔(∃ x∈a.nodes,x.id=z)∧lk GN.id b.nodes z=none:=fun z=>by
    rw[hD2];simp only[List.mem_map,List.mem_filter,Ayo]
    constructor
    · rintro⟨x,⟨h1,h2⟩,rfl⟩;exact⟨⟨x,h1,rfl⟩,h2⟩
    · rintro⟨⟨x,h1,rfl⟩,h2⟩;exact⟨x,⟨h1,h2⟩,rfl⟩
  have keep:∀e∈h1.edges,e∈a.edges∧∃y∈b.edges,y.id=e.id∧y.fr=e.fr∧y.to=e.to:=fun e he=>by
    have hl:=JD Hu k1.iE he rfl
    rw[e1]at hl
    split at hl
    · cases hl
    rename_i hn
    have hm:=(QC hl).1
    refine⟨hm,?_⟩
    cases hq:lk GE.id b.edges e.id with
    |none=>exact absurd ((mD1 _).2 ⟨e,hm,AuO hq,rfl⟩) hn
    | some y=>
      have hmv:Lr e y=false:=by
        cases hv:Lr e y with
        |false=>rfl
        |true=>exact absurd ((mD1 _).2 ⟨e,hm,by rw[Aan hq,hv],rfl⟩) hn
      have:=Aw2 hmv
      exact⟨y,(QC hq).1,(QC hq).2,this.1.symm,this.2.1.symm⟩
  obtain⟨h2,r2,k2,n2,l2,e2⟩:=AAp (D:=D2) k1 (fun z hz=>by obtain⟨⟨x,hx,rfl⟩,_⟩:=(mD2 z).1 hz;exact(ha.n x hx).id) (by rw[hD2];exact AuN iaN _) (fun z hz=>by rw[n1];exact((mD2 z).1 hz).1) (fun e he=>by
    obtain⟨_,y,hy,_,f1,f2⟩:=keep e he
    obtain⟨⟨p,hp,q1⟩,⟨r,hr,q2⟩⟩:=hb.ends y hy
    constructor
    · intro h
      have:=Aez.1 ((mD2 _).1 h).2 p hp
      exact this (by rw[q1,f1])
    · intro h
      have:=Aez.1 ((mD2 _).1 h).2 r hr
      exact this (by rw[q2,f2]))
  rw[n1]at e2 l2
  obtain⟨D3,hD3⟩:∃D3,D3=(b.nodes.filter (Qx a.nodes)).map GN.id:=⟨_,rfl⟩
  have mD3:∀z,z∈D3↔(∃ x∈b.nodes,x.id=z)∧lk GN.id a.nodes z=none:=fun z=>by
    rw[hD3];simp only[List.mem_map,List.mem_filter,Ayo]
    constructor
    · rintro⟨x,⟨h1,h2⟩,rfl⟩;exact⟨⟨x,h1,rfl⟩,h2⟩
    · rintro⟨⟨x,h1,rfl⟩,h2⟩;exact⟨x,⟨h1,h2⟩,rfl⟩
  have lD3:D3.length≤b.nodes.length:=by rw[hD3,List.length_map];exact List.length_filter_le _ _
  obtain⟨h3,r3,k3,n3,e3⟩:=AAq (D:=D3) k2 (fun z hz=>by obtain⟨⟨x,hx,rfl⟩,_⟩:=(mD3 z).1 hz;exact(hb.n x hx).id) (by rw[hD3];exact AuN ibN _) (fun z hz=>by
    rw[e2];split
    · rfl
    · exact((mD3 z).1 hz).2) (by omega)
  obtain⟨h4,r4,k4,n4,e4,o4⟩:=AAs (N:=a.nodes) ha.n iaN (B:=b.nodes) k3 hb.n (AgA Hu (SY ibN)) (fun n hn=>by
    rw[e3]
    unfold Vx
    cases hq:a.nodes.find? (isN n.id)with
    | none=>
      rw[if_pos ((mD3 _).2 ⟨⟨n,hn,rfl⟩,hq⟩)]
      exact⟨_,rfl,rfl,rfl⟩
    | some w=>
      have hq:lk GN.id a.nodes n.id=some w:=hq
      rw[if_neg (fun h=>by have:=((mD3 _).1 h).2;rw[hq]at this;cases this),e2,if_neg (fun h=>by have:=((mD2 _).1 h).2;rw[JD Hu ibN hn rfl]at this;cases this),hq]
      exact⟨w,rfl,rfl,rfl⟩)
  have g4:∀y,y∉b.nodes.map GN.id→lk GN.id h4.nodes y=none:=fun y hy=>by
    rw[o4 y hy,e3,if_neg (fun h=>hy (by obtain⟨⟨x,hx,e⟩,_⟩:=(mD3 _).1 h;rw[← e];exact List.mem_map_of_mem hx)),e2]
    split
    · rfl
    rename_i h
    refine Aez.2 fun x hx e=>h ((mD2 _).2 ⟨⟨x,hx,e⟩,Aez.2 fun w hw e2=>hy (by rw[← e2];exact List.mem_map_of_mem hw)⟩)
  have E4:h4.edges=h1.edges:=by rw[n4,n3,n2]
  have L4:∀y,lk GE.id h4.edges y=if y∈D1 then none else lk GE.id a.edges y:=fun y=>by rw[E4];exact e1 y
  obtain⟨h5,r5,k5,n5,e5⟩:=AAr (D:=b.edges.filter (JQ a.edges)) k4 (fun x hx=>by
    have hx:=(List.mem_filter.1 hx).1
    have hv:=hb.e x hx
    obtain⟨⟨p,hp,q1⟩,⟨r,hr,q2⟩⟩:=hb.ends x hx
    refine⟨hv.id,by rw[← q1];exact(hb.n p hp).id,by rw[← q2];exact(hb.n r hr).id,hv.ty,?_,?_⟩
    · obtain⟨m,m1,_⟩:=e4 p hp;exact⟨m,(QC m1).1,by rw[(QC m1).2,q1]⟩
    · obtain⟨m,m1,_⟩:=e4 r hr;exact⟨m,(QC m1).1,by rw[(QC m1).2,q2]⟩) (AuN ibE _) (fun x hx=>by
    obtain⟨hx,hg⟩:=List.mem_filter.1 hx
    rw[L4]
    split
    · rfl
    rename_i hn
    cases hq:lk GE.id a.edges x.id with
    |none=>rfl
    | some y=>
      rw[Aan hq]at hg
      exact absurd ((mD1 _).2 ⟨y,(QC hq).1,by rw[Aan (y:=x) (by rw[(QC hq).2];exact JD Hu ibE hx rfl),Aje];exact hg,(QC hq).2⟩) hn) (by
    have:=List.length_filter_le (JQ a.edges) b.edges
    rw[E4];omega)
  obtain⟨h6,r6,k6,n6,e6,o6⟩:=Ayh (E:=a.edges) ha.e (B:=b.edges) k5 hb.e (AgA Hu (SY ibE)) (fun n hn=>by
    rw[e5]
    have hF:Inc ltI GE.id (b.edges.filter (JQ a.edges)):=ibE.filter _
    unfold AfN
    cases hq:a.edges.find? (isE n.id)with
    | none=>
      have hq:lk GE.id a.edges n.id=none:=hq
      rw[JD Hu hF (List.mem_filter.2 ⟨hn,AuO hq⟩) rfl]
      exact⟨_,rfl,⟨rfl,rfl,rfl⟩,rfl⟩
    | some y=>
      have hq:lk GE.id a.edges n.id=some y:=hq
      show∃m:GE,_∧_∧m.props=if Lr n y=true then[]else y.props
      by_cases hm:Lr n y=true
      · rw[JD Hu hF (List.mem_filter.2 ⟨hn,by rw[Aan hq];exact hm⟩) rfl,if_pos hm]
        exact⟨_,rfl,⟨rfl,rfl,rfl⟩,rfl⟩
      · rw[if_neg hm]
        have hm:=Bool.not_eq_true _▸hm
        have h0:lk GE.id (b.edges.filter (JQ a.edges)) n.id=none:=Aez.2 fun w hw e=>by
          obtain⟨w1,w2⟩:=List.mem_filter.1 hw
          have:=JD Hu ibE w1 e
          rw[JD Hu ibE hn rfl]at this
          cases this
          rw[Aan hq,hm]at w2;cases w2
        have hyn:n.id∉D1:=fun h=>by
          obtain⟨x,x1,x2,x3⟩:=(mD1 _).1 h
          have:=JD Hu iaE x1 x3
          rw[hq]at this
          cases this
          rw[Aan (y:=n) (by rw[x3];exact JD Hu ibE hn rfl),Aje,hm]at x2;cases x2
        rw[h0,L4,if_neg hyn,hq]
        have:=Aw2 hm
        exact⟨y,rfl,⟨this.1.symm,this.2.1.symm,this.2.2.symm⟩,rfl⟩)
  have AB7:O1 a b=(D1.map (fun z=>mkC 7 z [])++D2.map (fun z=>mkC 2 z []))++((D3.map (fun z=>mkC 1 z [])++b.nodes.flatMap (Aae a.nodes))++((b.edges.filter (JQ a.edges)).map newE++b.edges.flatMap (O8 a.edges))):=by
    unfold O1 YI AhK Alh
    rw[hD1,hD2,hD3,List.map_map,List.map_map,List.map_map]
    rfl
  refine⟨h6,?_,k6,?_,?_⟩
  · rw[AB7]
    exact AaF (AaF r1 r2) (AaF (AaF r3 r4) (AaF r5 r6))
  · rw[n6,n5]
    refine AxB Hu k4.iN ibN (fun m hm=>?_) (fun n hn=>?_)
    · have h0:=JD Hu k4.iN hm rfl
      by_cases hq:m.id∈b.nodes.map GN.id
      · obtain⟨n,hn,e⟩:=List.mem_map.1 hq
        obtain⟨m',m1,m2⟩:=e4 n hn
        rw[e,h0]at m1
        cases m1
        exact⟨n,hn,e,m2⟩
      · rw[g4 _ hq]at h0;cases h0
    · obtain⟨m,m1,_⟩:=e4 n hn
      exact⟨m,(QC m1).1,(QC m1).2⟩
  · refine AxB Hu k6.iE ibE (fun m hm=>?_) (fun n hn=>?_)
    · have h0:=JD Hu k6.iE hm rfl
      by_cases hq:m.id∈b.edges.map GE.id
      · obtain⟨n,hn,e⟩:=List.mem_map.1 hq
        obtain⟨m',m1,m2⟩:=e6 n hn
        rw[e,h0]at m1
        cases m1
        exact⟨n,hn,e,m2⟩
      · have h5n:lk GE.id (b.edges.filter (JQ a.edges)) m.id=none:=Aez.2 fun w hw e=>hq (by rw[← e];exact List.mem_map_of_mem (List.mem_filter.1 hw).1)
        rw[o6 _ hq,e5,h5n,L4]at h0
        have h0:(if m.id∈D1 then none else lk GE.id a.edges m.id)=some m:=h0
        split at h0
        · cases h0
        rename_i hn1
        have hnb:lk GE.id b.edges m.id=none:=Aez.2 fun w hw e=>hq (by rw[← e];exact List.mem_map_of_mem hw)
        exact absurd ((mD1 _).2 ⟨m,(QC h0).1,AuO hnb,rfl⟩) hn1
    · obtain⟨m,m1,_⟩:=e6 n hn
      exact⟨m,(QC m1).1,(QC m1).2⟩
theorem Ayp {P Q:List GP} (hP:Inc Op.bytesLess GP.key P) (hQ:Inc Op.bytesLess GP.key Q) (h:AeL SP P Q):keysOf P=keysOf Q∧∀p∈Q,QK 12 (OA P p.key) p.v=0:=by
  have hk:keysOf P=keysOf Q:=List.ext_getElem (by unfold keysOf;rw[List.length_map,List.length_map];exact h.1) fun i h1 h2=>by
    unfold keysOf at h1 h2 ⊢
    rw[List.length_map]at h1 h2
    rw[List.getElem_map,List.getElem_map]
    exact(h.2 i h1 h2).1
  refine⟨hk,fun p hp=>?_⟩
  obtain⟨i,hi,rfl⟩:=List.getElem_of_mem hp
  have hi':i<P.length:=by rw[h.1];exact hi
  have hs:=h.2 i hi' hi
  have:OA P (Q[i]).key=(P[i]).v:=by
    unfold OA
    rw[show P.find? (AtO (Q[i]).key)=some P[i] from JD G7 hP (List.getElem_mem hi') hs.1]
  rw[this];exact hs.2
theorem Aav {α:Type} {p:α→Bool} {l:List α} (h:∀x∈l,p x=false):l.filter p=[]:=filter_none h
theorem Ayq {α β:Type} {f:α→List β} {l:List α} (h:∀x∈l,f x=[]):l.flatMap f=[]:=by
  rw[List.flatMap_eq_nil_iff];exact h
theorem Ajf {op z:Int} {l m:List (List UInt8)} (h:∀x∈l,x∈m):Gf op z l m=[]:=by
  unfold Gf
  rw[Aav fun x hx=>decide_eq_false fun q=>q (h x hx)];rfl
theorem values_nil {op z:Int} {a b:List GP} (h:∀p∈b,QK 12 (OA a p.key) p.v=0):valuesL op z a b=[]:=by
  unfold valuesL
  rw[Aav fun p hp=>decide_eq_false fun q=>q (h p hp)];rfl
theorem AxC {a b:GG} (ha:VG a) (hb:VG b) (h:SG a b):O1 a b=[]:=by
  have iaN:=ha.ask.iN
  have iaE:=ha.ask.iE
  have ibN:=hb.ask.iN
  have ibE:=hb.ask.iE
  have nab:∀n∈b.nodes,∃m∈a.nodes,SN m n:=fun n hn=>by
    obtain⟨i,hi,rfl⟩:=List.getElem_of_mem hn
    have hi':i<a.nodes.length:=by rw[h.1.1];exact hi
    exact⟨_,List.getElem_mem hi',h.1.2 i hi' hi⟩
  have nba:∀m∈a.nodes,∃n∈b.nodes,SN m n:=fun n hn=>by
    obtain⟨i,hi,rfl⟩:=List.getElem_of_mem hn
    have hi':i<b.nodes.length:=by rw[← h.1.1];exact hi
    exact⟨_,List.getElem_mem hi',h.1.2 i hi hi'⟩
  have eab:∀n∈b.edges,∃m∈a.edges,SE m n:=fun n hn=>by
    obtain⟨i,hi,rfl⟩:=List.getElem_of_mem hn
    have hi':i<a.edges.length:=by rw[h.2.1];exact hi
    exact⟨_,List.getElem_mem hi',h.2.2 i hi' hi⟩
  have eba:∀m∈a.edges,∃n∈b.edges,SE m n:=fun n hn=>by
    obtain⟨i,hi,rfl⟩:=List.getElem_of_mem hn
    have hi':i<b.edges.length:=by rw[← h.2.1];exact hi
    exact⟨_,List.getElem_mem hi',h.2.2 i hi hi'⟩
  have mv:∀{x y:GE},SE x y→Lr x y=false:=fun{x y} s=>decide_eq_false fun q=>q ⟨s.2.1,s.2.2.1,s.2.2.2.1⟩
  have g1:YI a b=[]:=by
    unfold YI
    rw[Aav fun x hx=>?_,Aav fun n hn=>?_]
    · rfl
    · obtain⟨m,hm,s⟩:=nba n hn
      cases hq:Qx b.nodes n with
      |false=>rfl
      |true=>have:=Ayo.1 hq;rw[JD Hu ibN hm s.1.symm]at this;cases this
    · obtain⟨y,hy,s⟩:=eba x hx
      rw[Aan (JD Hu ibE hy s.1.symm)];exact mv s
  have g2:AhK a b=[]:=by
    unfold AhK
    rw[Aav fun n hn=>?_,Ayq fun n hn=>?_]
    · rfl
    · obtain⟨m,hm,s⟩:=nab n hn
      have hw:Vx a.nodes n=m:=by unfold Vx;rw[show a.nodes.find? (isN n.id)=some m from JD Hu iaN hm s.1]
      obtain⟨k1,k2⟩:=Ayp (ha.n m hm).a.iP (hb.n n hn).a.iP s.2.2
      unfold Aae
      rw[hw,s.2.1,k1,Ajf fun x hx=>hx,Ajf fun x hx=>hx,Ajf fun x hx=>hx,values_nil k2]
      rfl
    · obtain⟨m,hm,s⟩:=nab n hn
      cases hq:Qx a.nodes n with
      |false=>rfl
      |true=>have:=Ayo.1 hq;rw[JD Hu iaN hm s.1]at this;cases this
  have g3:Alh a b=[]:=by
    unfold Alh
    rw[Aav fun n hn=>?_,Ayq fun n hn=>?_]
    · rfl
    · obtain⟨m,hm,s⟩:=eab n hn
      have hw:AfN a.edges n=m.props:=by
        unfold AfN
        rw[show a.edges.find? (isE n.id)=some m from JD Hu iaE hm s.1]
        show(if Lr n m=true then[]else m.props)=_
        rw[Aje,mv s];rfl
      obtain⟨k1,k2⟩:=Ayp (ha.e m hm).a.iP (hb.e n hn).a.iP s.2.2.2.2
      unfold O8
      rw[hw,k1,Ajf fun x hx=>hx,values_nil k2]
      rfl
    · obtain⟨m,hm,s⟩:=eab n hn
      rw[Aan (JD Hu iaE hm s.1),Aje];exact mv s
  unfold O1
  rw[g1,g2,g3]
  rfl
end AI
end Go.Proofs.YtnbibfalljlmfaaGreatDoor
