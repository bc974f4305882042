/- Labels and keys renamed, and back: plain. Types of edges renamed, and back: plain. What is wrong with a rule: the program's and the reference's Check. value.Null. -/
import Derived.Test.YtjijnamhalgamaaGreatDoorTMam
import Derived.Test.YtjijnamhalgamaaGreatDoorTMae
import Derived.Test.YtjijnamhalgamaaGreatDoorTMag
set_option linter.unusedVariables false
set_option maxRecDepth 4000
namespace Go.Proofs.YtjijnamhalgamaaGreatDoor
namespace AI
theorem len_del1 {α κ:Type} {lt:κ→κ→Bool} {key:α→κ} (hs:Tq lt) {k:κ} {l:List α} (h:∃y∈l,key y=k):(Gg lt key k l).length+1≤l.length:=by
 have:=AaM (lt:=lt) (key:=key) hs h
 unfold Gg
 rw[List.length_append]
 omega
theorem AlV {L:List (List UInt8)} (h:Inc Op.bytesLess id L):L.Pairwise (fun x y=>Op.bytesLess x y=true):=h
def AlW (fr to:List UInt8) (L:List (List UInt8)):List (List UInt8):=if fr∈L then BZ Op.bytesLess id to (Gg Op.bytesLess id fr L)else L
theorem Aex {fr to:List UInt8} {L:List (List UInt8)} (hf:fr∈L) (ht:to∉L) {y:List UInt8}:y∈AlW fr to L↔(y∈L∧y≠fr)∨y=to:=by
 unfold AlW
 rw[if_pos hf,Po AA,Agr AA]
 simp only[id]
 constructor
 ·rintro(h|⟨h,_⟩)
  ·exact .inr h
  ·exact .inl h
 ·rintro(h|h)
  ·by_cases e:y=to
   ·exact .inl e
   ·exact .inr ⟨h,e⟩
  ·exact .inl h
theorem Aig {fr to:List UInt8} {L:List (List UInt8)} (h:Inc Op.bytesLess id L):Inc Op.bytesLess id (AlW fr to L):=by
 unfold AlW
 split
 ·exact Fe AA (FZ AA h)
 ·exact h
theorem Aio {fr to:List UInt8} {L:List (List UInt8)} (hf:fr∉L):AlW fr to L=L:=if_neg hf
theorem Akj {fr to:List UInt8} {L:List (List UInt8)} (hne:fr≠to) (ht:to∉L):fr∉AlW fr to L:=by
 by_cases hf:fr∈L
 ·rw[Aex hf ht];rintro(h|h)
  ·exact h.2 rfl
  ·exact hne h
 ·rw[Aio hf];exact hf
theorem renL_back {fr to:List UInt8} {L:List (List UInt8)} (h:Inc Op.bytesLess id L) (hne:fr≠to) (ht:to∉L):AlW to fr (AlW fr to L)=L:=by
 by_cases hf:fr∈L
 ·have h2:to∈AlW fr to L:=(Aex hf ht).2 (.inr rfl)
  have h3:=Akj hne ht
  refine AhP AA (AlV (Aig (Aig h))) (AlV h) fun y=>?_
  rw[Aex h2 h3,Aex hf ht]
  constructor
  ·rintro(⟨h4|h4,h5⟩|h4)
   ·exact h4.1
   ·exact absurd h4 h5
   ·rw[h4];exact hf
  ·intro h4
   by_cases e:y=fr
   ·exact .inr e
   ·exact .inl ⟨.inl ⟨h4,e⟩,fun e2=>ht (e2▸h4)⟩
 ·rw[Aio hf,Aio ht]
def AlT (fr to:List UInt8) (P:List GP):List GP:=if AcA P fr then BZ Op.bytesLess GP.key ⟨to,ET P fr⟩ (Gg Op.bytesLess GP.key fr P)else P
theorem AiO {fr to:List UInt8} {P:List GP} (h:Inc Op.bytesLess GP.key P):Inc Op.bytesLess GP.key (AlT fr to P):=by
 unfold AlT
 split
 ·exact Fe AA (FZ AA h)
 ·exact h
theorem val_lk {P:List GP} {k:List UInt8} {p:GP} (h:lk GP.key P k=some p):ET P k=p.v:=by
 unfold ET
 rw[show P.find? (isK k)=some p from h]
theorem has_lk {P:List GP} {k:List UInt8} (h:AcA P k) (hI:Inc Op.bytesLess GP.key P):lk GP.key P k=some ⟨k,ET P k⟩:=by
 obtain⟨p,hp,e⟩:=h
 have h1:=Wp AA hI hp e
 rw[h1,val_lk h1,←e]
theorem hasnt_lk {P:List GP} {k:List UInt8} (h:¬AcA P k):lk GP.key P k=none:=AjV.2 fun p hp e=>h ⟨p,hp,e⟩
theorem lk_has {P:List GP} {k:List UInt8}:AcA P k↔lk GP.key P k≠none:=by
 constructor
 ·rintro⟨p,hp,e⟩ h;exact AjV.1 h p hp e
 ·intro h
  cases hq:lk GP.key P k with
  |none=>exact absurd hq h
  |some p=>exact⟨p,(XK hq).1,(XK hq).2⟩
theorem AgN {fr to:List UInt8} {P:List GP} (h:Inc Op.bytesLess GP.key P) (hf:AcA P fr) {k:List UInt8}:lk GP.key (AlT fr to P) k=if k=to then some ⟨to,ET P fr⟩else if k=fr then none else lk GP.key P k:=by
 unfold AlT
 rw[if_pos hf,Adu AA (FZ AA h),AlE AA h]
theorem AlD {P Q:List GP} (hP:Inc Op.bytesLess GP.key P) (hQ:Inc Op.bytesLess GP.key Q) (h:∀k,lk GP.key P k=lk GP.key Q k):P=Q:=by
 have hp:=inc_pw AA (R:=Eq) hP hQ (fun a ha=>by
  have h1:=Wp AA hP ha rfl
  rw[h]at h1
  exact⟨a,(XK h1).1,rfl,rfl⟩) (fun b hb=>by
  have h1:=Wp AA hQ hb rfl
  rw[← h]at h1
  exact⟨b,(XK h1).1,rfl⟩)
 exact List.ext_getElem hp.1 hp.2
theorem Aid {fr to:List UInt8} {P:List GP} (hf:¬AcA P fr):AlT fr to P=P:=if_neg hf
theorem has_renP {fr to:List UInt8} {P:List GP} (h:Inc Op.bytesLess GP.key P) (hf:AcA P fr):AcA (AlT fr to P) to:=by
 rw[lk_has,AgN h hf,if_pos rfl];exact fun e=>by cases e
theorem hasnt_renP {fr to:List UInt8} {P:List GP} (h:Inc Op.bytesLess GP.key P) (hne:fr≠to) (hf:AcA P fr):¬AcA (AlT fr to P) fr:=by
 rw[lk_has,AgN h hf,if_neg hne,if_pos rfl];exact fun e=>e rfl
theorem renP_back {fr to:List UInt8} {P:List GP} (h:Inc Op.bytesLess GP.key P) (hne:fr≠to) (ht:¬AcA P to):AlT to fr (AlT fr to P)=P:=by
 by_cases hf:AcA P fr
 ·have h2:=has_renP (to:=to) h hf
  have hi:=AiO (fr:=fr) (to:=to) h
  refine AlD (AiO hi) h fun k=>?_
  have hv:ET (AlT fr to P) to=ET P fr:=val_lk (p:=⟨to,ET P fr⟩) (by rw[AgN h hf,if_pos rfl])
  rw[AgN hi h2,AgN h hf,hv]
  by_cases e1:k=fr
  ·rw[if_pos e1,e1,has_lk hf h]
  ·rw[if_neg e1]
   by_cases e2:k=to
   ·rw[if_pos e2,e2,hasnt_lk ht]
   ·rw[if_neg e2,if_neg e2,if_neg e1]
 ·rw[Aid hf,Aid ht]
section
variable {z:Int} {f:Int→Option GN} {E:List GE}
theorem run_r1 (hz:UG z) {fr to:List UInt8} (hnf:AaA fr) (hnt:AaA to) {h:GG} {m:GN} (a:AtN h z m f E) (hf:fr∈m.labels) (ht:to∉m.labels) (hne:fr≠to):
 ∃h' m',AcL h [mkC 4 z fr,mkC 3 z to]=some h'∧AtN h' z m' f E∧m'.props=m.props∧m'.labels=AlW fr to m.labels:=by
 have hn0:=a.na
 obtain⟨h1,m1,r1,a1,p1,l1⟩:=run_ld hz (D:=[fr]) (by simp) (by simpa using hf) (by simpa using hnf) a
 have e1:m1.labels=Gg Op.bytesLess id fr m.labels:=AhP AA (AlV a1.na.iL) (AlV (FZ AA hn0.iL)) fun y=>by rw[l1,Agr AA];simp
 have hlen:=len_del1 (key:=id) AA (k:=fr) (l:=m.labels) ⟨fr,hf,rfl⟩
 have hn1:to∉m1.labels:=by rw[l1];exact fun h=>ht h.1
 obtain⟨h2,m2,r2,a2,p2,l2⟩:=run_la hz (W:=to::m1.labels) (by rw[List.length_cons,e1];have:=hn0.lL;omega) (D:=[to]) (by simp) (by simpa using hn1) (by simp) (fun x hx=>by simp[hx]) (by simpa using hnt) a1
 refine⟨h2,m2,AfP r1 r2,a2,p2.trans p1,?_⟩
 refine AhP AA (AlV a2.na.iL) (AlV (Aig hn0.iL)) fun y=>?_
 rw[l2,l1,Aex hf ht]
 simp
theorem run_r3 (hz:UG z) {fr to:List UInt8} (hnf:AaA fr) (hnt:AaA to) {h:GG} {m:GN} (a:AtN h z m f E) (hf:AcA m.props fr) (ht:¬AcA m.props to) (hne:fr≠to) (hl:Dx (ET m.props fr)):
 ∃h' m',AcL h [mkC 5 z fr,⟨5,z,0,0,to,ET m.props fr⟩]=some h'∧AtN h' z m' f E∧m'.labels=m.labels∧m'.props=AlT fr to m.props:=by
 have hn0:=a.na
 obtain⟨h1,m1,r1,a1,p1,l1⟩:=run_pd hz (D:=[fr]) (by simpa using hnf) a
 have e1:m1.props=Gg Op.bytesLess GP.key fr m.props:=AlD a1.na.iP (FZ AA hn0.iP) fun k=>by rw[l1,AlE AA hn0.iP];simp
 have hlen:=len_del1 (key:=GP.key) AA (k:=fr) (l:=m.props) hf
 obtain⟨h2,m2,r2,a2,p2,l2⟩:=run_ps hz (W:=to::m1.props.map GP.key) (by rw[List.length_cons,List.length_map,e1];have:=hn0.lP;omega) (D:=[⟨to,ET m.props fr⟩]) (by simp[keysOf]) (by simpa using⟨hnt,hl⟩) (fun q hq=>by simp;exact .inr ⟨q,hq,rfl⟩) a1
 refine⟨h2,m2,AfP r1 r2,a2,p2.trans p1,?_⟩
 refine AlD a2.na.iP (AiO hn0.iP) fun k=>?_
 rw[l2,l1,AgN hn0.iP hf]
 have e:lk GP.key [⟨to,ET m.props fr⟩] k=if k=to then some ⟨to,ET m.props fr⟩else none:=by
  unfold lk
  by_cases q:k=to
  ·subst q;simp
  ·rw[if_neg q]
   simp[Ne.symm q]
 rw[e]
 by_cases q:k=to
 ·rw[if_pos q,if_pos q];rfl
 ·rw[if_neg q,if_neg q]
  by_cases q2:k=fr
  ·simp[q2]
  ·simp[q2]
end
theorem run_map {C:GN→Prop} {F:GN→List GC} {R:GN→GN→Prop} (step:∀n,C n→∀(h:GG) (m:GN) (f:Int→Option GN) (E:List GE),AtN h n.id m f E→m.labels=n.labels→m.props=n.props→∃h' m',AcL h (F n)=some h'∧AtN h' n.id m' f E∧R m' n):
 ∀{B:List GN} {h:GG},IZ h→(∀ n∈B,C n)→(B.map GN.id).Nodup→(∀ n∈B,∃m,lk GN.id h.nodes n.id=some m∧m.labels=n.labels∧m.props=n.props)→
 ∃h',AcL h (B.flatMap F)=some h'∧IZ h'∧h'.edges=h.edges∧(∀ n∈B,∃m,lk GN.id h'.nodes n.id=some m∧R m n)∧∀y,y∉B.map GN.id→lk GN.id h'.nodes y=lk GN.id h.nodes y
 |[],h,a,_,_,_=>⟨h,rfl,a,rfl,fun _ h=>by simp at h,fun y _=>rfl⟩
 |n::B,h,a,hv,hD,hm=>by
  have hD':=List.nodup_cons.1 hD
  obtain⟨m,m1,m2,m3⟩:=hm n (by simp)
  obtain⟨h1,mm,r1,a1,s1⟩:=step n (hv n (by simp)) h m (lk GN.id h.nodes) h.edges ⟨a,m1,fun _ _=>rfl,rfl⟩ m2 m3
  obtain⟨h',r,a',e1,e2,e3⟩:=run_map step (B:=B) a1.ask (fun y hy=>hv y (by simp[hy])) hD'.2 (fun y hy=>by
   obtain⟨w,w1,w2,w3⟩:=hm y (by simp[hy])
   refine⟨w,?_,w2,w3⟩
   rw[a1.rest _ fun e=>hD'.1 (by rw[← e];exact List.mem_map_of_mem hy)]
   exact w1)
  refine⟨h',by rw[List.flatMap_cons];exact AfP r1 r,a',e1.trans a1.ed,fun y hy=>?_,fun y hy=>?_⟩
  ·rcases List.mem_cons.1 hy with rfl|hy
   ·exact⟨mm,by rw[e3 _ hD'.1];exact a1.here,s1⟩
   ·exact e2 y hy
  ·rw[List.map_cons,List.mem_cons]at hy
   rw[e3 y fun q=>hy (.inr q)]
   exact a1.rest y fun q=>hy (.inl q)
theorem AfO {C:GN→Prop} {F:GN→List GC} {R:GN→GN→Prop} (step:∀n,C n→∀(h:GG) (m:GN) (f:Int→Option GN) (E:List GE),AtN h n.id m f E→m.labels=n.labels→m.props=n.props→∃h' m',AcL h (F n)=some h'∧AtN h' n.id m' f E∧R m' n) {g:GG} (hg:VG g) (hC:∀n∈g.nodes,C n):
 ∃h,AcL g (g.nodes.flatMap F)=some h∧h.edges=g.edges∧Afk (fun m n=>m.id=n.id∧R m n) h.nodes g.nodes:=by
 have hI:=hg.ask.iN
 obtain⟨h,r,a,e1,e2,e3⟩:=run_map step (B:=g.nodes) (h:=g) hg.ask hC (AiH Aw (Adv hI)) (fun n hn=>⟨n,Wp Aw hI hn rfl,rfl,rfl⟩)
 refine⟨h,r,e1,?_⟩
 refine inc_pw Aw (R:=fun m n=>m.id=n.id∧R m n) a.iN hI (fun m hm=>?_) (fun n hn=>?_)
 ·have h1:=Wp Aw a.iN hm rfl
  by_cases hz:m.id∈g.nodes.map GN.id
  ·obtain⟨n,hn,e⟩:=List.mem_map.1 hz
   obtain⟨m',h2,h3⟩:=e2 n hn
   rw[e,h1]at h2
   cases h2
   exact⟨n,hn,e,e.symm,h3⟩
  ·rw[e3 _ hz]at h1
   exact absurd (List.mem_map.2 ⟨m,(XK h1).1,rfl⟩) hz
 ·obtain⟨m',h2,h3⟩:=e2 n hn
  exact⟨m',(XK h2).1,(XK h2).2⟩
theorem keys_len {α:Type} {key:α→Int} {l m:List α} (hl:Inc DY key l) (hm:Inc DY key m) (h:∀y,lk key l y=none↔lk key m y=none):l.length=m.length:=by
 have hk:l.map key=m.map key:=AhP Aw (Adv hl) (Adv hm) fun x=>by
  have e:∀{q:List α},x∈q.map key↔lk key q x≠none:=fun{q}=>by
   constructor
   ·intro hx h
    obtain⟨a,ha,e⟩:=List.mem_map.1 hx
    exact AjV.1 h a ha e
   ·intro hx
    cases hq:lk key q x with
    |none=>exact absurd hq hx
    |some a=>exact List.mem_map.2 ⟨a,(XK hq).1,(XK hq).2⟩
  rw[e,e,ne_eq,ne_eq,h]
 have:=congrArg List.length hk
 simpa using this
def reE (to:List UInt8) (e:GE):List GC:=mkC 7 e.id []::newE {e with ty:=to}::e.props.map fun p=>⟨8,e.id,0,0,p.key,p.v⟩
theorem run_re {to:List UInt8} (hnt:AaA to) {h:GG} {e:GE} (a:IZ h) (he:VE e) (hl:lk GE.id h.edges e.id=some e) (hN:(∃ n∈h.nodes,n.id=e.fr∧UG n.id)∧∃n∈h.nodes,n.id=e.to∧UG n.id) (hlen:h.edges.length<4000):
 ∃h' m',AcL h (reE to e)=some h'∧IZ h'∧h'.nodes=h.nodes∧lk GE.id h'.edges e.id=some m'∧(m'.fr=e.fr∧m'.to=e.to∧m'.ty=to∧m'.props=e.props)∧∀y,y≠e.id→lk GE.id h'.edges y=lk GE.id h.edges y:=by
 obtain⟨⟨p,hp,q1,q2⟩,⟨r,hr,q3,q4⟩⟩:=hN
 obtain⟨h1,r1,k1,n1,l1,e1⟩:=run_de (D:=[e.id]) a (by simpa using he.id) (by simp) (by simpa using⟨e,(XK hl).1,rfl⟩)
 obtain⟨h2,r2,k2,n2,e2⟩:=run_ae (D:=[{e with ty:=to}]) k1 (by
  simp only[List.mem_singleton]
  rintro x rfl
  exact⟨he.id,by show UG e.fr;rw[← q1];exact q2,by show UG e.to;rw[← q3];exact q4,hnt,⟨p,by rw[n1];exact hp,q1⟩,⟨r,by rw[n1];exact hr,q3⟩⟩) (by simp) (by
  simp only[List.mem_singleton]
  rintro x rfl
  rw[e1];simp) (by simp;omega)
 have hh:lk GE.id h2.edges e.id=some (Acy {e with ty:=to}):=by
  rw[e2]
  have:lk GE.id [{e with ty:=to}] e.id=some {e with ty:=to}:=by unfold lk;simp
  rw[this];rfl
 obtain⟨h3,m3,r3,a3,s3,p3⟩:=run_es (z:=e.id) (f:=lk GE.id h2.edges) (N:=h2.nodes) he.id (W:=e.props.map GP.key) (by rw[List.length_map];exact he.a.lP) (D:=e.props) (AiH AA (Adv he.a.iP)) (fun p hp=>⟨List.mem_map_of_mem hp,he.nk _ (List.mem_map_of_mem hp),he.pl p hp⟩) (fun p hp=>by cases hp) ⟨k2,hh,fun _ _=>rfl,rfl⟩
 refine⟨h3,m3,?_,a3.ask,a3.nd.trans (n2.trans n1),a3.here,⟨s3.1,s3.2.1,s3.2.2,?_⟩,fun y hy=>?_⟩
 ·exact AfP r1 (AfP (A:=[newE {e with ty:=to}]) r2 r3)
 ·refine AlD a3.na.iP he.a.iP fun k=>?_
  rw[p3]
  show(lk GP.key e.props k).or (lk GP.key [] k)=_
  cases lk GP.key e.props k<;>rfl
 ·rw[a3.rest y hy,e2,e1]
  have:lk GE.id [{e with ty:=to}] y=none:=by unfold lk;simp[Ne.symm hy]
  rw[this,if_neg (by simpa using hy)]
  rfl
theorem run_mapE {fr to:List UInt8} (hnt:AaA to) {N:List GN} {len:Nat} (hlen:len<4000) (hid:∀n∈N,UG n.id):
 ∀{B:List GE} {h:GG},IZ h→h.nodes=N→h.edges.length=len→(∀ e∈B,VE e∧(∃ n∈N,n.id=e.fr)∧∃n∈N,n.id=e.to)→(B.map GE.id).Nodup→(∀ e∈B,lk GE.id h.edges e.id=some e)→
 ∃h',AcL h (B.flatMap fun e=>if e.ty=fr then reE to e else[])=some h'∧IZ h'∧h'.nodes=N∧(∀ e∈B,∃m,lk GE.id h'.edges e.id=some m∧(m.fr=e.fr∧m.to=e.to∧m.ty=(if e.ty=fr then to else e.ty)∧m.props=e.props))∧∀y,y∉B.map GE.id→lk GE.id h'.edges y=lk GE.id h.edges y
 |[],h,a,hN,_,_,_,_=>⟨h,rfl,a,hN,fun _ h=>by simp at h,fun y _=>rfl⟩
 |e::B,h,a,hN,hL,hv,hD,hm=>by
  have hD':=List.nodup_cons.1 hD
  obtain⟨v1,⟨p,hp,p1⟩,⟨r,hr,r1⟩⟩:=hv e (by simp)
  have hl:=hm e (by simp)
  obtain⟨h1,m1,s1,a1,n1,l1,q1,o1⟩:∃h1 m1,AcL h (if e.ty=fr then reE to e else[])=some h1∧IZ h1∧h1.nodes=h.nodes∧lk GE.id h1.edges e.id=some m1∧(m1.fr=e.fr∧m1.to=e.to∧m1.ty=(if e.ty=fr then to else e.ty)∧m1.props=e.props)∧∀y,y≠e.id→lk GE.id h1.edges y=lk GE.id h.edges y:=by
   by_cases ht:e.ty=fr
   ·rw[if_pos ht,if_pos ht]
    exact run_re hnt a v1 hl ⟨⟨p,by rw[hN];exact hp,p1,hid p hp⟩,⟨r,by rw[hN];exact hr,r1,hid r hr⟩⟩ (by omega)
   ·rw[if_neg ht,if_neg ht]
    exact⟨h,e,rfl,a,rfl,hl,⟨rfl,rfl,rfl,rfl⟩,fun _ _=>rfl⟩
  have hL1:h1.edges.length=len:=by
   rw[← hL]
   refine keys_len a1.iE a.iE fun y=>?_
   by_cases hy:y=e.id
   ·subst hy;rw[l1,hl];simp
   ·rw[o1 y hy]
  obtain⟨h',s,a',n',e2,e3⟩:=run_mapE hnt hlen hid (B:=B) a1 (n1.trans hN) hL1 (fun y hy=>hv y (by simp[hy])) hD'.2 (fun y hy=>by
   rw[o1 _ fun e=>hD'.1 (by rw[← e];exact List.mem_map_of_mem hy)]
   exact hm y (by simp[hy]))
  refine⟨h',by rw[List.flatMap_cons];exact AfP s1 s,a',n',fun y hy=>?_,fun y hy=>?_⟩
  ·rcases List.mem_cons.1 hy with rfl|hy
   ·exact⟨m1,by rw[e3 _ hD'.1];exact l1,q1⟩
   ·exact e2 y hy
  ·rw[List.map_cons,List.mem_cons]at hy
   rw[e3 y fun q=>hy (.inr q)]
   exact o1 y fun q=>hy (.inl q)
theorem Aeo {fr to:List UInt8} (hnt:AaA to) {g:GG} (hg:VG g) (hlen:g.edges.length<4000):
 ∃h,AcL g (g.edges.flatMap fun e=>if e.ty=fr then reE to e else[])=some h∧h.nodes=g.nodes∧Afk (fun m e=>m.id=e.id∧m.fr=e.fr∧m.to=e.to∧m.ty=(if e.ty=fr then to else e.ty)∧m.props=e.props) h.edges g.edges:=by
 have hI:=hg.ask.iE
 obtain⟨h,r,a,e1,e2,e3⟩:=run_mapE (fr:=fr) hnt hlen (fun n hn=>(hg.n n hn).id) (B:=g.edges) (h:=g) hg.ask rfl rfl (fun e he=>⟨hg.e e he,hg.ends e he⟩) (AiH Aw (Adv hI)) (fun e he=>Wp Aw hI he rfl)
 refine⟨h,r,e1,?_⟩
 refine inc_pw Aw (R:=fun m e=>m.id=e.id∧m.fr=e.fr∧m.to=e.to∧m.ty=(if e.ty=fr then to else e.ty)∧m.props=e.props) a.iE hI (fun m hm=>?_) (fun n hn=>?_)
 ·have h1:=Wp Aw a.iE hm rfl
  by_cases hz:m.id∈g.edges.map GE.id
  ·obtain⟨n,hn,e⟩:=List.mem_map.1 hz
   obtain⟨m',h2,h3⟩:=e2 n hn
   rw[e,h1]at h2
   cases h2
   exact⟨n,hn,e,e.symm,h3⟩
  ·rw[e3 _ hz]at h1
   exact absurd (List.mem_map.2 ⟨m,(XK h1).1,rfl⟩) hz
 ·obtain⟨m',h2,h3⟩:=e2 n hn
  exact⟨m',(XK h2).1,(XK h2).2⟩
theorem name3 {s:List UInt8} (hl:s.length<2^63):Ae (Ad tab) 85 [.str s] (· =.bool (decide (AaA s))):=by
 by_cases h0:s.length=0
 ·obtain rfl:s=[]:=List.length_eq_zero_iff.1 h0
  refine Ac rfl rfl ?_
  (conv=>whnf);repeat' (first|((first|refine kA ?_|(apply Br.mk<;>intro hc))<;>first|exact hc.elim|conv=>whnf)|refine kB ?_)
  all_goals exact Au (by simp[AaA])
 have hs:0<s.length:=by omega
 have hz:s[0]?=some s[0]:=List.getElem?_eq_getElem hs
 refine Ac rfl rfl ?_
 (conv=>whnf);repeat' (first|((first|refine kA ?_|(apply Br.mk<;>intro hc))<;>first|exact hc.elim|conv=>whnf)|refine kB ?_)
 all_goals first|exact Au (by unfold AaA;omega)|skip
 refine Ag (fun m env s'=>∃i:Nat,m=s.length-i∧env=[(0,.str s),(3,.int .i64 i)]∧s'=⟨[],0⟩∧(∀ c∈s.take i,Gi c.toNat)∧(0<i→CB s[0].toNat)) ?_ _ _ _ ⟨0,rfl,rfl,rfl,by simp,by simp⟩
 rintro _ _ _ ⟨i,rfl,rfl,rfl,hx,hy⟩
 refine⟨rfl,?_⟩
 (conv=>whnf);repeat' (first|((first|refine kA ?_|(apply Br.mk<;>intro hc))<;>first|exact hc.elim|conv=>whnf)|refine kB ?_)
 all_goals first
  |exact again.mk ⟨_,by omega,i+1,rfl,rfl,rfl,Bl (by omega) hx (by unfold Gi CB;omega),fun _=>by
        rcases Nat.eq_zero_or_pos i with h|h
        ·subst h;unfold CB;omega
        ·exact hy h⟩
  |(refine Au fun h=>?_
    have h1:=QF (i:=i) (by omega) h
    unfold Gi CB at *;omega)
  |(refine Au fun h=>?_
    obtain rfl:i=0:=by omega
    have h1:=J3 hs h
    unfold CB at *;omega)
  |exact Bd ⟨hs,by omega,fun c h=>by rw[hz]at h;cases h;exact hy (by omega),by rw[BN hc]at hx;exact hx⟩
def GH (r:GR):Prop:=if r.k=3∨r.k=5 then r.n=1∨r.n=2∨r.n=4 else if r.k=7 then 0≤r.n∧r.n≤4000 else r.n=0
instance (r:GR):Decidable (GH r):=by unfold GH;infer_instance
def Acc (r:GR):Prop:=¬(1≤r.k∧r.k≤7)∨¬GH r∨(¬ (1≤r.k∧r.k≤5)∧r.key≠[])∨(r.k≠6∧(r.fr≠[]∨r.to≠[]))
def En (r:GR):Prop:=¬AaA r.name∨((1≤r.k∧r.k≤5)∧¬AaA r.key)∨(r.fr≠[]∧¬AaA r.fr)∨(r.to≠[]∧¬AaA r.to)
instance (r:GR):Decidable (Acc r):=by unfold Acc;infer_instance
instance (r:GR):Decidable (En r):=by unfold En;infer_instance
def Dt (r:GR):Int:=if Acc r then 1 else if En r then 6 else 0
theorem I7 {r:GR} (h:Acc r):AV.int .i64 1=AV.int .i64 (Dt r):=by rw[Dt,if_pos h]
theorem JI {r:GR} (h:¬Acc r) (h1:En r):AV.int .i64 6=AV.int .i64 (Dt r):=by rw[Dt,if_neg h,if_pos h1]
theorem JJ {r:GR} (h:¬Acc r) (h1:¬En r):AV.int .i64 0=AV.int .i64 (Dt r):=by rw[Dt,if_neg h,if_neg h1]
theorem AhU {r:GR}:Ae (Ad tab) 83 [r.av] (· =.bool (decide (GH r))):=by
 refine Ac rfl rfl ?_
 (conv=>whnf);repeat' (first|((first|refine kA ?_|(apply Br.mk<;>intro hc))<;>first|exact hc.elim|conv=>whnf)|refine kB ?_)
 all_goals first
  |exact Bd (by unfold GH;split<;>(try split)<;>omega)
  |exact Au (by unfold GH;split<;>(try split)<;>omega)
theorem Ak8 {k:Int}:Ae (Ad tab) 84 [.int .i64 k] (· =.bool (decide (1≤k∧k≤5))):=by
 refine Ac rfl rfl ?_
 (conv=>whnf);repeat' (first|((first|refine kA ?_|(apply Br.mk<;>intro hc))<;>first|exact hc.elim|conv=>whnf)|refine kB ?_)
 all_goals first
  |exact Bd (by omega)
  |exact Au (by omega)
theorem Ak9:Ae (Ad tab) 166 [.int .i64 1] (· =.BD [.agg [.bool true,.bool false,.bool false],.bool true]):=⟨_,⟨20,by kernel_rfl⟩,rfl⟩
theorem Ala:Ae (Ad tab) 166 [.int .i64 2] (· =.BD [.agg [.bool true,.bool false,.bool false],.bool true]):=⟨_,⟨20,by kernel_rfl⟩,rfl⟩
theorem Alb:Ae (Ad tab) 166 [.int .i64 3] (· =.BD [.agg [.bool true,.bool true,.bool false],.bool true]):=⟨_,⟨20,by kernel_rfl⟩,rfl⟩
theorem Alc:Ae (Ad tab) 166 [.int .i64 4] (· =.BD [.agg [.bool true,.bool false,.bool false],.bool true]):=⟨_,⟨20,by kernel_rfl⟩,rfl⟩
theorem Ald:Ae (Ad tab) 166 [.int .i64 5] (· =.BD [.agg [.bool true,.bool true,.bool false],.bool true]):=⟨_,⟨20,by kernel_rfl⟩,rfl⟩
theorem Ale:Ae (Ad tab) 166 [.int .i64 6] (· =.BD [.agg [.bool false,.bool false,.bool true],.bool true]):=⟨_,⟨20,by kernel_rfl⟩,rfl⟩
theorem Alf:Ae (Ad tab) 166 [.int .i64 7] (· =.BD [.agg [.bool false,.bool true,.bool false],.bool true]):=⟨_,⟨20,by kernel_rfl⟩,rfl⟩
theorem Alg {k:Int} (h:¬(1≤k∧k≤7)):Ae (Ad tab) 166 [.int .i64 k] (· =.BD [.agg [.bool false,.bool false,.bool false],.bool false]):=by
 refine Ac rfl rfl ?_
 (conv=>whnf);repeat' (first|((first|refine kA ?_|(apply Br.mk<;>intro hc))<;>first|exact hc.elim|conv=>whnf)|refine kB ?_)
 all_goals first|rfl|omega
theorem OO {n:Int}:Ae (Ad tab) 167 [.int .i64 n] (fun v=>∃s,v=.str s∧(s=[]↔¬(n=1∨n=2∨n=4))):=by
 refine Ac rfl rfl ?_
 (conv=>whnf);repeat' (first|((first|refine kA ?_|(apply Br.mk<;>intro hc))<;>first|exact hc.elim|conv=>whnf)|refine kB ?_)
 all_goals first|exact⟨_,rfl,by simp;omega⟩|exact⟨_,rfl,by simp[*]⟩
theorem AhV {r:GR} (hr:r.ok) (hk:¬(1≤r.k∧r.k≤7)):Ae (Ad tab) 102 [r.av] (· =.int .i64 (Dt r)):=by
 refine Ac rfl rfl ?_
 (conv=>whnf);repeat' (first|((first|apply kE (Alg hk)|refine kA ?_|(apply Br.mk<;>intro hc))<;>first|exact hc.elim|conv=>whnf)|refine kB ?_)
 all_goals exact I7 (.inl hk)
set_option maxHeartbeats 2000000 in
theorem AhW {r:GR} (hr:r.ok) (hk:r.k=1):Ae (Ad tab) 102 [r.av] (· =.int .i64 (Dt r)):=by
 obtain⟨k,n,nm,key,fr,to⟩:=r
 obtain⟨g1,g2,g3,g4,g5,g6⟩:=hr
 unfold Ln at g3 g4 g5 g6
 dsimp only at g1 g2 g3 g4 g5 g6 hk
 subst hk
 refine Ac rfl rfl ?_
 (conv=>whnf);repeat' (first|((first|apply kE Ak9|(refine Aa OO ?_;rintro _ ⟨s,rfl,hs⟩)|refine Aq (AbU (s:=nm) g3) (fun ha=>?_) (fun ha=>?_)|refine Aq (AbU (s:=key) g4) (fun hd=>?_) (fun hd=>?_)|refine Aq (AbU (s:=fr) g5) (fun he=>?_) (fun he=>?_)|refine Aq (AbU (s:=to) g6) (fun hf=>?_) (fun hf=>?_)|refine kA ?_|(apply Br.mk<;>intro hc))<;>first|exact hc.elim|conv=>whnf)|refine kB ?_)
 all_goals clear g1 g2 g3 g4 g5 g6
 all_goals first
  |exact I7 (by unfold Acc GH;dsimp only;grind)
  |exact JI (by unfold Acc GH;dsimp only;grind) (by unfold En;dsimp only;grind)
  |exact JJ (by unfold Acc GH;dsimp only;grind) (by unfold En;dsimp only;grind)
  |(exfalso;grind)
set_option maxHeartbeats 2000000 in
theorem AhX {r:GR} (hr:r.ok) (hk:r.k=2):Ae (Ad tab) 102 [r.av] (· =.int .i64 (Dt r)):=by
 obtain⟨k,n,nm,key,fr,to⟩:=r
 obtain⟨g1,g2,g3,g4,g5,g6⟩:=hr
 unfold Ln at g3 g4 g5 g6
 dsimp only at g1 g2 g3 g4 g5 g6 hk
 subst hk
 refine Ac rfl rfl ?_
 (conv=>whnf);repeat' (first|((first|apply kE Ala|(refine Aa OO ?_;rintro _ ⟨s,rfl,hs⟩)|refine Aq (AbU (s:=nm) g3) (fun ha=>?_) (fun ha=>?_)|refine Aq (AbU (s:=key) g4) (fun hd=>?_) (fun hd=>?_)|refine Aq (AbU (s:=fr) g5) (fun he=>?_) (fun he=>?_)|refine Aq (AbU (s:=to) g6) (fun hf=>?_) (fun hf=>?_)|refine kA ?_|(apply Br.mk<;>intro hc))<;>first|exact hc.elim|conv=>whnf)|refine kB ?_)
 all_goals clear g1 g2 g3 g4 g5 g6
 all_goals first
  |exact I7 (by unfold Acc GH;dsimp only;grind)
  |exact JI (by unfold Acc GH;dsimp only;grind) (by unfold En;dsimp only;grind)
  |exact JJ (by unfold Acc GH;dsimp only;grind) (by unfold En;dsimp only;grind)
  |(exfalso;grind)
set_option maxHeartbeats 2000000 in
theorem AhY {r:GR} (hr:r.ok) (hk:r.k=3):Ae (Ad tab) 102 [r.av] (· =.int .i64 (Dt r)):=by
 obtain⟨k,n,nm,key,fr,to⟩:=r
 obtain⟨g1,g2,g3,g4,g5,g6⟩:=hr
 unfold Ln at g3 g4 g5 g6
 dsimp only at g1 g2 g3 g4 g5 g6 hk
 subst hk
 refine Ac rfl rfl ?_
 (conv=>whnf);repeat' (first|((first|apply kE Alb|(refine Aa OO ?_;rintro _ ⟨s,rfl,hs⟩)|refine Aq (AbU (s:=nm) g3) (fun ha=>?_) (fun ha=>?_)|refine Aq (AbU (s:=key) g4) (fun hd=>?_) (fun hd=>?_)|refine Aq (AbU (s:=fr) g5) (fun he=>?_) (fun he=>?_)|refine Aq (AbU (s:=to) g6) (fun hf=>?_) (fun hf=>?_)|refine kA ?_|(apply Br.mk<;>intro hc))<;>first|exact hc.elim|conv=>whnf)|refine kB ?_)
 all_goals clear g1 g2 g3 g4 g5 g6
 all_goals first
  |exact I7 (by unfold Acc GH;dsimp only;grind)
  |exact JI (by unfold Acc GH;dsimp only;grind) (by unfold En;dsimp only;grind)
  |exact JJ (by unfold Acc GH;dsimp only;grind) (by unfold En;dsimp only;grind)
  |(exfalso;grind)
set_option maxHeartbeats 2000000 in
theorem AhZ {r:GR} (hr:r.ok) (hk:r.k=4):Ae (Ad tab) 102 [r.av] (· =.int .i64 (Dt r)):=by
 obtain⟨k,n,nm,key,fr,to⟩:=r
 obtain⟨g1,g2,g3,g4,g5,g6⟩:=hr
 unfold Ln at g3 g4 g5 g6
 dsimp only at g1 g2 g3 g4 g5 g6 hk
 subst hk
 refine Ac rfl rfl ?_
 (conv=>whnf);repeat' (first|((first|apply kE Alc|(refine Aa OO ?_;rintro _ ⟨s,rfl,hs⟩)|refine Aq (AbU (s:=nm) g3) (fun ha=>?_) (fun ha=>?_)|refine Aq (AbU (s:=key) g4) (fun hd=>?_) (fun hd=>?_)|refine Aq (AbU (s:=fr) g5) (fun he=>?_) (fun he=>?_)|refine Aq (AbU (s:=to) g6) (fun hf=>?_) (fun hf=>?_)|refine kA ?_|(apply Br.mk<;>intro hc))<;>first|exact hc.elim|conv=>whnf)|refine kB ?_)
 all_goals clear g1 g2 g3 g4 g5 g6
 all_goals first
  |exact I7 (by unfold Acc GH;dsimp only;grind)
  |exact JI (by unfold Acc GH;dsimp only;grind) (by unfold En;dsimp only;grind)
  |exact JJ (by unfold Acc GH;dsimp only;grind) (by unfold En;dsimp only;grind)
  |(exfalso;grind)
set_option maxHeartbeats 2000000 in
theorem Ah0 {r:GR} (hr:r.ok) (hk:r.k=5):Ae (Ad tab) 102 [r.av] (· =.int .i64 (Dt r)):=by
 obtain⟨k,n,nm,key,fr,to⟩:=r
 obtain⟨g1,g2,g3,g4,g5,g6⟩:=hr
 unfold Ln at g3 g4 g5 g6
 dsimp only at g1 g2 g3 g4 g5 g6 hk
 subst hk
 refine Ac rfl rfl ?_
 (conv=>whnf);repeat' (first|((first|apply kE Ald|(refine Aa OO ?_;rintro _ ⟨s,rfl,hs⟩)|refine Aq (AbU (s:=nm) g3) (fun ha=>?_) (fun ha=>?_)|refine Aq (AbU (s:=key) g4) (fun hd=>?_) (fun hd=>?_)|refine Aq (AbU (s:=fr) g5) (fun he=>?_) (fun he=>?_)|refine Aq (AbU (s:=to) g6) (fun hf=>?_) (fun hf=>?_)|refine kA ?_|(apply Br.mk<;>intro hc))<;>first|exact hc.elim|conv=>whnf)|refine kB ?_)
 all_goals clear g1 g2 g3 g4 g5 g6
 all_goals first
  |exact I7 (by unfold Acc GH;dsimp only;grind)
  |exact JI (by unfold Acc GH;dsimp only;grind) (by unfold En;dsimp only;grind)
  |exact JJ (by unfold Acc GH;dsimp only;grind) (by unfold En;dsimp only;grind)
  |(exfalso;grind)
set_option maxHeartbeats 2000000 in
theorem Ah1 {r:GR} (hr:r.ok) (hk:r.k=6):Ae (Ad tab) 102 [r.av] (· =.int .i64 (Dt r)):=by
 obtain⟨k,n,nm,key,fr,to⟩:=r
 obtain⟨g1,g2,g3,g4,g5,g6⟩:=hr
 unfold Ln at g3 g4 g5 g6
 dsimp only at g1 g2 g3 g4 g5 g6 hk
 subst hk
 refine Ac rfl rfl ?_
 (conv=>whnf);repeat' (first|((first|apply kE Ale|(refine Aa OO ?_;rintro _ ⟨s,rfl,hs⟩)|refine Aq (AbU (s:=nm) g3) (fun ha=>?_) (fun ha=>?_)|refine Aq (AbU (s:=key) g4) (fun hd=>?_) (fun hd=>?_)|refine Aq (AbU (s:=fr) g5) (fun he=>?_) (fun he=>?_)|refine Aq (AbU (s:=to) g6) (fun hf=>?_) (fun hf=>?_)|refine kA ?_|(apply Br.mk<;>intro hc))<;>first|exact hc.elim|conv=>whnf)|refine kB ?_)
 all_goals clear g1 g2 g3 g4 g5 g6
 all_goals first
  |exact I7 (by unfold Acc GH;dsimp only;grind)
  |exact JI (by unfold Acc GH;dsimp only;grind) (by unfold En;dsimp only;grind)
  |exact JJ (by unfold Acc GH;dsimp only;grind) (by unfold En;dsimp only;grind)
  |(exfalso;grind)
set_option maxHeartbeats 2000000 in
theorem Ah2 {r:GR} (hr:r.ok) (hk:r.k=7):Ae (Ad tab) 102 [r.av] (· =.int .i64 (Dt r)):=by
 obtain⟨k,n,nm,key,fr,to⟩:=r
 obtain⟨g1,g2,g3,g4,g5,g6⟩:=hr
 unfold Ln at g3 g4 g5 g6
 dsimp only at g1 g2 g3 g4 g5 g6 hk
 subst hk
 refine Ac rfl rfl ?_
 (conv=>whnf);repeat' (first|((first|apply kE Alf|(refine Aa OO ?_;rintro _ ⟨s,rfl,hs⟩)|refine Aq (AbU (s:=nm) g3) (fun ha=>?_) (fun ha=>?_)|refine Aq (AbU (s:=key) g4) (fun hd=>?_) (fun hd=>?_)|refine Aq (AbU (s:=fr) g5) (fun he=>?_) (fun he=>?_)|refine Aq (AbU (s:=to) g6) (fun hf=>?_) (fun hf=>?_)|refine kA ?_|(apply Br.mk<;>intro hc))<;>first|exact hc.elim|conv=>whnf)|refine kB ?_)
 all_goals clear g1 g2 g3 g4 g5 g6
 all_goals first
  |exact I7 (by unfold Acc GH;dsimp only;grind)
  |exact JI (by unfold Acc GH;dsimp only;grind) (by unfold En;dsimp only;grind)
  |exact JJ (by unfold Acc GH;dsimp only;grind) (by unfold En;dsimp only;grind)
  |(exfalso;grind)
theorem NQ {r:GR} (hr:r.ok):Ae (Ad tab) 102 [r.av] (· =.int .i64 (Dt r)):=by
 by_cases hk:1≤r.k∧r.k≤7
 case neg=>exact AhV hr hk
 have h:r.k=1∨r.k=2∨r.k=3∨r.k=4∨r.k=5∨r.k=6∨r.k=7:=by omega
 rcases h with h|h|h|h|h|h|h
 ·exact AhW hr h
 ·exact AhX hr h
 ·exact AhY hr h
 ·exact AhZ hr h
 ·exact Ah0 hr h
 ·exact Ah1 hr h
 ·exact Ah2 hr h
set_option maxHeartbeats 4000000 in
theorem Aih {r:GR} (hr:r.ok):Ae (Ad tab) 37 [r.av] (· =.int .i64 (Dt r)):=by
 obtain⟨g1,g2,g3,g4,g5,g6⟩:=hr
 unfold Ln at g3 g4 g5 g6
 refine Ac rfl rfl ?_
 (conv=>whnf);repeat' (first|((first|refine Aq (AhU (r:=r)) (fun hn=>?_) (fun hn=>?_)|refine Aq (Ak8 (k:=r.k)) (fun hb=>?_) (fun hb=>?_)|refine Aq (name3 (s:=r.name) g3) (fun ha=>?_) (fun ha=>?_)|refine Aq (name3 (s:=r.key) g4) (fun hd=>?_) (fun hd=>?_)|refine Aq (name3 (s:=r.fr) g5) (fun he=>?_) (fun he=>?_)|refine Aq (name3 (s:=r.to) g6) (fun hf=>?_) (fun hf=>?_)|refine kA ?_|(apply Br.mk<;>intro hc))<;>first|exact hc.elim|conv=>whnf)|refine kB ?_)
 all_goals clear g1 g2 g3 g4 g5 g6
 all_goals first
  |exact I7 (by unfold Acc;grind)
  |exact JI (by unfold Acc;grind) (by unfold En;grind)
  |exact JJ (by unfold Acc;grind) (by unfold En;grind)
  |(exfalso;grind)
theorem Og:Ae (Ad tab) 99 [] (· =XO.av):=by
 refine Ac rfl rfl ?_
 (conv=>whnf);repeat' (first|((first|refine kA ?_|(apply Br.mk<;>intro hc))<;>first|exact hc.elim|conv=>whnf)|refine kB ?_)
 rfl
end AI
end Go.Proofs.YtjijnamhalgamaaGreatDoor
