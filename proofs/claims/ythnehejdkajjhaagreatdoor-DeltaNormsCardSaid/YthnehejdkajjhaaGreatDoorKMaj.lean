/- What becomes of an edited graph when its store changes. An editor's change of a node. An editor's change of a node: labels. An editor's change of a node: labels taken away, properties set. An editor's change of an edge: looking it up; taking one away. -/
import Derived.Test.YthnehejdkajjhaaGreatDoorKMai
import Derived.Test.YthnehejdkajjhaaGreatDoorKMae
set_option linter.unusedVariables false
set_option maxRecDepth 4000
namespace Go.Proofs.YthnehejdkajjhaaGreatDoor
namespace AI
theorem Hd.diff {α:Type} {f:α→AV} {es:Nat} {σ:List Obj} {v:AV} {b c:Bool} {l:List α} (h:Hd f es σ v b l c) {o g es':Nat} {c':Bool} {xs:List AV} (ho:nth σ o=some (.arr g es' true c' xs)) (hne:es'≠es):o∉v.obj:=by
 intro hm
 obtain⟨g1,e1,nn,c1,x1,h1,h2⟩:=h.obj hm
 rw[ho]at h1
 simp only[Option.some.injEq,Obj.arr.injEq]at h1
 obtain⟨_,rfl,rfl,_,_⟩:=h1
 exact hne (h2 rfl)
theorem Hd.nodup {α:Type} {f:α→AV} {es:Nat} {σ:List Obj} {v:AV} {b c:Bool} {l:List α} (h:Hd f es σ v b l c):v.obj.Nodup:=by
 rcases h with⟨_,_,rfl|⟨o',g,es',rfl,h⟩⟩|⟨_,o',g,rfl,h⟩<;>simp[AV.obj]
theorem NQ {A B B' C:List Nat} {n:Nat} (h:(A++B++C).Nodup) (hb:B'.Nodup) (hB:∀o∈B',o∈B∨n≤o) (hlt:∀o,o∈A∨o∈C→o<n):(A++B'++C).Nodup:=by
 rw[List.nodup_append,List.nodup_append]at h ⊢
 obtain⟨⟨h1,h2,h3⟩,h4,h5⟩:=h
 refine⟨⟨h1,hb,fun a ha b hb'=>?_⟩,h4,fun a ha b hb'=>?_⟩
 ·rcases hB b hb' with h|h
  ·exact h3 a ha b h
  ·have:=hlt a (.inl ha);omega
 ·rcases List.mem_append.1 ha with ha|ha
  ·exact h5 a (List.mem_append_left _ ha) b hb'
  ·rcases hB a ha with h|h
   ·exact h5 a (List.mem_append_right _ h) b hb'
   ·have:=hlt b (.inr hb');omega
theorem EN.Ok.lt {σ:List Obj} {e:EN} (h:e.Ok σ):∀o∈e.objs,o<σ.length:=fun o ho=>by
 rcases List.mem_append.1 ho with ho|ho
 ·exact h.1.lt o ho
 ·exact h.2.lt o ho
theorem EE.Ok.lt {σ:List Obj} {e:EE} (h:e.Ok σ):∀o∈e.objs,o<σ.length:=fun o ho=>Hd.lt h o ho
theorem EN.Ok.keep {σ σ':List Obj} {e:EN} (h:e.Ok σ) (hk:∀o∈e.objs,nth σ' o=nth σ o):e.Ok σ':=
 ⟨h.1.keep fun o ho=>hk o (List.mem_append_left _ ho),h.2.keep fun o ho=>hk o (List.mem_append_right _ ho)⟩
theorem EE.Ok.keep {σ σ':List Obj} {e:EE} (h:e.Ok σ) (hk:∀o∈e.objs,nth σ' o=nth σ o):e.Ok σ':=Hd.keep h hk
section
variable {σ σ':List Obj} {d gd:Nat} {vN vE:AV} {nb eb:Bool} {N:List EN} {E:List EE} {x y:Int}
theorem NR {α:Type} {f:α→List Nat} {l:List α} {i:Nat} (hi:i<l.length):l.flatMap f=(l.take i).flatMap f++(f l[i]++(l.drop (i+1)).flatMap f):=by
 have e:l.take i++l[i]::l.drop (i+1)=l:=by rw[← List.drop_eq_getElem_cons hi,List.take_append_drop]
 rw[← List.flatMap_cons,←List.flatMap_append,e]
theorem NK {N:List EN} {E:List EE} {i:Nat} (hi:i<N.length):Cj N E=(N.take i).flatMap EN.objs++(N[i]).objs++((N.drop (i+1)).flatMap EN.objs++E.flatMap EE.objs):=by
 rw[Cj,NR hi]
 simp only[List.append_assoc]
theorem OW {N:List EN} {E:List EE} {i:Nat} (hi:i<E.length):Cj N E=(N.flatMap EN.objs++(E.take i).flatMap EE.objs)++(E[i]).objs++(E.drop (i+1)).flatMap EE.objs:=by
 rw[Cj,NR hi]
 simp only[List.append_assoc]
theorem J8 {N:List EN} {E:List EE} {e:EN} (he:e∈N) {o:Nat} (ho:o∈e.objs):o∈Cj N E:=List.mem_append_left _ (List.mem_flatMap.2 ⟨e,he,ho⟩)
theorem ML {N:List EN} {E:List EE} {e:EE} (he:e∈E) {o:Nat} (ho:o∈e.objs):o∈Cj N E:=List.mem_append_right _ (List.mem_flatMap.2 ⟨e,he,ho⟩)
theorem Ed.fr (h:Ed σ d gd vN vE nb eb N E x y) {F:List Nat} (hF:Fr σ σ' F) (ho:∀o∈d::(vN.obj++(vE.obj++Cj N E)),o∉F):Ed σ' d gd vN vE nb eb N E x y:=by
 obtain⟨cn,hn1,hn2⟩:=h.hn
 obtain⟨ce,he1,he2⟩:=h.he
 exact⟨hF.get h.box (ho _ (by simp)),⟨cn,hn1.keep fun o hm=>hF.eq o (hn1.lt o hm) (ho o (by simp[hm])),hn2⟩,⟨ce,he1.keep fun o hm=>hF.eq o (he1.lt o hm) (ho o (by simp[hm])),he2⟩,
  fun e he=>(h.hN e he).keep fun o hm=>hF.eq o ((h.hN e he).lt o hm) (ho o (by simp[J8 (E:=E) he hm])),
  fun e he=>(h.hE e he).keep fun o hm=>hF.eq o ((h.hE e he).lt o hm) (ho o (by simp[ML (N:=N) he hm])),h.nd,h.oN,h.oE⟩
theorem Ed.P8 (h:Ed σ d gd vN vE nb eb N E x y) (hF:Fr σ σ' []):Ed σ' d gd vN vE nb eb N E x y:=h.fr hF (by simp)
theorem Ed.QJ (h:Ed σ d gd vN vE nb eb N E x y):∀o∈d::(vN.obj++(vE.obj++Cj N E)),o<σ.length:=by
 intro o ho
 obtain⟨cn,hn1,_⟩:=h.hn
 obtain⟨ce,he1,_⟩:=h.he
 rcases List.mem_cons.1 ho with rfl|ho
 ·exact Dc h.box
 rcases List.mem_append.1 ho with ho|ho
 ·exact hn1.lt o ho
 rcases List.mem_append.1 ho with ho|ho
 ·exact he1.lt o ho
 rcases List.mem_append.1 ho with ho|ho<;>obtain⟨e,he,hm⟩:=List.mem_flatMap.1 ho
 ·exact(h.hN e he).lt o hm
 ·exact(h.hE e he).lt o hm
theorem Ed.nodes (h:Ed σ d gd vN vE nb eb N E x y) {F:List Nat} (hF:Fr σ σ' F) (hFE:∀o∈F,o∉vE.obj∧o∉E.flatMap EE.objs) {Zm:AV} {nb':Bool} {N':List EN} {x':Int} {c':Bool}
 (hb:nth σ' d=some (.arr gd 4 true false [.agg [Zm,vE,.int .i64 x',.int .i64 y]]))
 (hn:Hd EN.av 3 σ' Zm nb' N' c') (hc:c'=true→∀e∈N',e.av.closed=true) (hm:∀e∈N',e.Ok σ') (hnd:(d::(Zm.obj++(vE.obj++Cj N' E))).Nodup) (hv:Zm≠.sl false []):Ed σ' d gd Zm vE nb' eb N' E x' y:=by
 obtain⟨ce,he1,he2⟩:=h.he
 exact⟨hb,⟨c',hn,hc⟩,⟨ce,he1.keep fun o hm=>hF.eq o (he1.lt o hm) (fun hf=>(hFE o hf).1 hm),he2⟩,hm,
  fun e he=>(h.hE e he).keep fun o hm=>hF.eq o ((h.hE e he).lt o hm) (fun hf=>(hFE o hf).2 (List.mem_flatMap.2 ⟨e,he,hm⟩)),hnd,hv,h.oE⟩
theorem Ed.edges (h:Ed σ d gd vN vE nb eb N E x y) {F:List Nat} (hF:Fr σ σ' F) (hFE:∀o∈F,o∉vN.obj∧o∉N.flatMap EN.objs) {vE':AV} {eb':Bool} {E':List EE} {y':Int} {c':Bool}
 (hb:nth σ' d=some (.arr gd 4 true false [.agg [vN,vE',.int .i64 x,.int .i64 y']]))
 (hn:Hd EE.av 5 σ' vE' eb' E' c') (hc:c'=true→∀e∈E',e.av.closed=true) (hm:∀e∈E',e.Ok σ') (hnd:(d::(vN.obj++(vE'.obj++Cj N E'))).Nodup) (hv:vE'≠.sl false []):Ed σ' d gd vN vE' nb eb' N E' x y':=by
 obtain⟨cn,he1,he2⟩:=h.hn
 exact⟨hb,⟨cn,he1.keep fun o hm=>hF.eq o (he1.lt o hm) (fun hf=>(hFE o hf).1 hm),he2⟩,⟨c',hn,hc⟩,
  fun e he=>(h.hN e he).keep fun o hm=>hF.eq o ((h.hN e he).lt o hm) (fun hf=>(hFE o hf).2 (List.mem_flatMap.2 ⟨e,he,hm⟩)),hm,hnd,h.oN,hv⟩
theorem Ed.Jy (h:Ed σ d gd vN vE nb eb N E x y) {i:Nat} (hi:i<N.length):∀o,o∈vN.obj∨o∈(N[i]).objs→o≠d∧o∉vE.obj∧o∉E.flatMap EE.objs∧(o∈vN.obj→o∉Cj N E)∧(o∈(N[i]).objs→o∉vN.obj∧∀j (hj:j<N.length),j≠i→o∉(N[j]).objs):=by
 have hnd:=h.nd
 have hsp:=NK (E:=E) hi
 rw[List.nodup_cons,List.nodup_append,List.nodup_append]at hnd
 obtain⟨h1,h2,⟨h3,h4,h5⟩,h6⟩:=hnd
 have hmem:∀o∈(N[i]).objs,o∈Cj N E:=fun o ho=>J8 (List.getElem_mem hi) ho
 intro o ho
 refine⟨?_,?_,?_,?_,?_⟩
 ·rintro rfl
  rcases ho with ho|ho
  ·exact h1 (by simp[ho])
  ·exact h1 (by simp[hmem _ ho])
 ·intro hm
  rcases ho with ho|ho
  ·exact h6 o ho o (by simp[hm]) rfl
  ·exact h5 o hm o (hmem _ ho) rfl
 ·intro hm
  rcases ho with ho|ho
  ·exact h6 o ho o (by simp[Cj];exact .inr (.inr (by simpa using hm))) rfl
  ·rw[hsp,List.nodup_append]at h4
   exact h4.2.2 o (List.mem_append_right _ ho) o (List.mem_append_right _ hm) rfl
 ·exact fun hv hm=>h6 o hv o (by simp[hm]) rfl
 ·intro hoi
  refine⟨fun hv=>h6 o hv o (by simp[hmem _ hoi]) rfl,fun j hj hji hm=>?_⟩
  rw[hsp,List.nodup_append,List.nodup_append]at h4
  obtain⟨⟨_,_,k1⟩,_,k2⟩:=h4
  rcases Nat.lt_or_ge j i with hlt|hge
  ·exact k1 o (List.mem_flatMap.2 ⟨N[j],List.mem_take_iff_getElem.2 ⟨j,by omega,rfl⟩,hm⟩) o hoi rfl
  ·exact k2 o (List.mem_append_right _ hoi) o (List.mem_append_left _ (List.mem_flatMap.2 ⟨N[j],List.mem_drop_iff_getElem.2 ⟨j-(i+1),by omega,by congr 1;omega⟩,hm⟩)) rfl
theorem Ed.AcR (h:Ed σ d gd vN vE nb eb N E x y) {i:Nat} (hi:i<E.length):∀o,o∈vE.obj∨o∈(E[i]).objs→o≠d∧o∉vN.obj∧o∉N.flatMap EN.objs∧(o∈vE.obj→o∉Cj N E)∧(o∈(E[i]).objs→o∉vE.obj∧∀j (hj:j<E.length),j≠i→o∉(E[j]).objs):=by
 have hnd:=h.nd
 have hsp:=OW (N:=N) hi
 rw[List.nodup_cons,List.nodup_append,List.nodup_append]at hnd
 obtain⟨h1,h2,⟨h3,h4,h5⟩,h6⟩:=hnd
 have hmem:∀o∈(E[i]).objs,o∈Cj N E:=fun o ho=>ML (List.getElem_mem hi) ho
 intro o ho
 refine⟨?_,?_,?_,?_,?_⟩
 ·rintro rfl
  rcases ho with ho|ho
  ·exact h1 (by simp[ho])
  ·exact h1 (by simp[hmem _ ho])
 ·intro hm
  rcases ho with ho|ho
  ·exact h6 o hm o (by simp[ho]) rfl
  ·exact h6 o hm o (by simp[hmem _ ho]) rfl
 ·intro hm
  rcases ho with ho|ho
  ·exact h5 o ho o (List.mem_append_left _ hm) rfl
  ·rw[hsp,List.nodup_append,List.nodup_append]at h4
   exact h4.1.2.2 o (List.mem_append_left _ hm) o ho rfl
 ·exact fun hv hm=>h5 o hv o hm rfl
 ·intro hoi
  refine⟨fun hv=>h5 o hv o (hmem _ hoi) rfl,fun j hj hji hm=>?_⟩
  rw[hsp,List.nodup_append,List.nodup_append]at h4
  obtain⟨⟨_,_,k1⟩,_,k2⟩:=h4
  rcases Nat.lt_or_ge j i with hlt|hge
  ·exact k1 o (List.mem_append_right _ (List.mem_flatMap.2 ⟨E[j],List.mem_take_iff_getElem.2 ⟨j,by omega,rfl⟩,hm⟩)) o hoi rfl
  ·exact k2 o (List.mem_append_right _ hoi) o (List.mem_flatMap.2 ⟨E[j],List.mem_drop_iff_getElem.2 ⟨j-(i+1),by omega,by congr 1;omega⟩,hm⟩) rfl
theorem Lj {α:Type} {l:List α} {i:Nat} {a e:α} (he:e∈l.set i a):e=a∨∃j,∃hj:j<l.length,j≠i∧e=l[j]:=by
 obtain⟨j,hj,rfl⟩:=List.getElem_of_mem he
 rw[List.length_set]at hj
 by_cases h:j=i
 ·subst h;exact .inl (by simp)
 ·exact .inr ⟨j,hj,h,by rw[List.getElem_set_ne (Ne.symm h)]⟩
theorem Abz {α:Type} {f:α→List Nat} {l:List α} {i:Nat} {a:α} (hi:i<l.length):(l.set i a).flatMap f=(l.take i).flatMap f++(f a++(l.drop (i+1)).flatMap f):=by
 rw[List.set_eq_take_append_cons_drop,if_pos hi,List.flatMap_append,List.flatMap_cons]
theorem Ed.setNode {on gn:Nat} (h:Ed σ d gd (.own on gn 0 N.length) vE true eb N E x y) {i:Nat} (hi:i<N.length) {e':EN} {c':Bool} (hF:Fr σ σ' (on::(N[i]).objs))
 (hon:nth σ' on=some (.arr gn 3 true c' (vs EN.av (N.set i e')))) (hc:c'=true→∀e∈N.set i e',e.av.closed=true) (hok:e'.Ok σ') (hob:∀o∈e'.objs,o∈(N[i]).objs∨σ.length≤o) (hnd:e'.objs.Nodup):
 Ed σ' d gd (.own on gn 0 N.length) vE true eb (N.set i e') E x y:=by
 have hap:=h.Jy hi
 have hin:∀o∈on::(N[i]).objs,o∈(AV.own on gn 0 N.length).obj∨o∈(N[i]).objs:=fun o ho=>by
  rcases List.mem_cons.1 ho with rfl|ho
  ·exact .inl (by simp[AV.obj])
  ·exact .inr ho
 refine h.nodes hF (fun o ho=>⟨(hap o (hin o ho)).2.1,(hap o (hin o ho)).2.2.1⟩) (hF.get h.box fun hm=>(hap d (hin d hm)).1 rfl) (.inr ⟨rfl,on,gn,by rw[List.length_set],hon⟩) hc (fun e he=>?_) ?_ (by simp)
 ·rcases Lj he with rfl|⟨j,hj,hji,rfl⟩
  ·exact hok
  ·refine(h.hN _ (List.getElem_mem hj)).keep fun o hm=>hF.eq o ((h.hN _ (List.getElem_mem hj)).lt o hm) fun hf=>?_
   rcases List.mem_cons.1 hf with rfl|hf
   ·exact(hap o (.inl (by simp[AV.obj]))).2.2.2.1 (by simp[AV.obj]) (J8 (List.getElem_mem hj) hm)
   ·exact((hap o (.inr hf)).2.2.2.2 hf).2 j hj hji hm
 ·have h0:=h.nd
  have hl:=h.QJ
  rw[NK hi]at h0 hl
  have e1:d::((AV.own on gn 0 N.length).obj++(vE.obj++Cj (N.set i e') E))=(d::((AV.own on gn 0 N.length).obj++(vE.obj++(N.take i).flatMap EN.objs)))++e'.objs++((N.drop (i+1)).flatMap EN.objs++E.flatMap EE.objs):=by
   rw[Cj,Abz hi];simp only[List.append_assoc,List.cons_append]
  rw[e1]
  refine NQ (B:=(N[i]).objs) (n:=σ.length) (by simpa only[List.append_assoc,List.cons_append]using h0) hnd hob fun o ho=>hl o ?_
  simp only[List.mem_cons,List.mem_append]at ho ⊢
  rcases ho with(h|h|h|h)|h|h<;>simp[h]
theorem Ed.Ak3 {on gn:Nat} (h:Ed σ d gd vN (.own on gn 0 E.length) nb true N E x y) {i:Nat} (hi:i<E.length) {e':EE} {c':Bool} (hF:Fr σ σ' (on::(E[i]).objs))
 (hon:nth σ' on=some (.arr gn 5 true c' (vs EE.av (E.set i e')))) (hc:c'=true→∀e∈E.set i e',e.av.closed=true) (hok:e'.Ok σ') (hob:∀o∈e'.objs,o∈(E[i]).objs∨σ.length≤o) (hnd:e'.objs.Nodup):
 Ed σ' d gd vN (.own on gn 0 E.length) nb true N (E.set i e') x y:=by
 have hap:=h.AcR hi
 have hin:∀o∈on::(E[i]).objs,o∈(AV.own on gn 0 E.length).obj∨o∈(E[i]).objs:=fun o ho=>by
  rcases List.mem_cons.1 ho with rfl|ho
  ·exact .inl (by simp[AV.obj])
  ·exact .inr ho
 refine h.edges hF (fun o ho=>⟨(hap o (hin o ho)).2.1,(hap o (hin o ho)).2.2.1⟩) (hF.get h.box fun hm=>(hap d (hin d hm)).1 rfl) (.inr ⟨rfl,on,gn,by rw[List.length_set],hon⟩) hc (fun e he=>?_) ?_ (by simp)
 ·rcases Lj he with rfl|⟨j,hj,hji,rfl⟩
  ·exact hok
  ·refine(h.hE _ (List.getElem_mem hj)).keep fun o hm=>hF.eq o ((h.hE _ (List.getElem_mem hj)).lt o hm) fun hf=>?_
   rcases List.mem_cons.1 hf with rfl|hf
   ·exact(hap o (.inl (by simp[AV.obj]))).2.2.2.1 (by simp[AV.obj]) (ML (List.getElem_mem hj) hm)
   ·exact((hap o (.inr hf)).2.2.2.2 hf).2 j hj hji hm
 ·have h0:=h.nd
  have hl:=h.QJ
  rw[OW hi]at h0 hl
  have e1:d::(vN.obj++((AV.own on gn 0 E.length).obj++Cj N (E.set i e')))=(d::(vN.obj++((AV.own on gn 0 E.length).obj++(N.flatMap EN.objs++(E.take i).flatMap EE.objs))))++e'.objs++(E.drop (i+1)).flatMap EE.objs:=by
   rw[Cj,Abz hi];simp only[List.append_assoc,List.cons_append]
  rw[e1]
  refine NQ (B:=(E[i]).objs) (n:=σ.length) (by simpa only[List.append_assoc,List.cons_append]using h0) hnd hob fun o ho=>hl o ?_
  simp only[List.mem_cons,List.mem_append]at ho ⊢
  rcases ho with(h|h|h|h|h)|h<;>simp[h]
theorem Ed.Avj (h:Ed σ d gd vN vE nb eb N E x y) {F:List Nat} (hFo:∀o∈F,o=d∨o∈vN.obj):∀o∈vE.obj++Cj N E,o∉F:=by
 intro o ho hf
 have hnd:=h.nd
 rw[List.nodup_cons,List.nodup_append]at hnd
 rcases hFo o hf with rfl|hv
 ·exact hnd.1 (List.mem_append_right _ ho)
 ·exact hnd.2.2.2 o hv o ho rfl
theorem Ed.Avk (h:Ed σ d gd vN vE nb eb N E x y) {F:List Nat} (hFo:∀o∈F,o=d∨o∈vE.obj):∀o∈vN.obj++Cj N E,o∉F:=by
 intro o ho hf
 have hnd:=h.nd
 rw[List.nodup_cons,List.nodup_append,List.nodup_append]at hnd
 rcases hFo o hf with rfl|hv
 ·exact hnd.1 (by rcases List.mem_append.1 ho with ho|ho<;>simp[ho])
 ·rcases List.mem_append.1 ho with ho|ho
  ·exact hnd.2.2.2 o ho o (List.mem_append_left _ hv) rfl
  ·exact hnd.2.2.1.2.2 o hv o ho rfl
def eN0 (z:Int):EN:=⟨⟨z,false,[],false,[]⟩,.sl false [],.sl false []⟩
def eE0 (z fr to:Int) (ty:List UInt8):EE:=⟨⟨z,fr,to,ty,false,[]⟩,.sl false []⟩
theorem Ed.AoN (h:Ed σ d gd vN vE nb eb N E x y) {F:List Nat} (hF:Fr σ σ' F) (hFo:∀o∈F,o=d∨o∈vN.obj) {Zm:AV} {nb':Bool} {N':List EN} {x':Int} {c':Bool}
 (hb:nth σ' d=some (.arr gd 4 true false [.agg [Zm,vE,.int .i64 x',.int .i64 y]])) (hn:Hd EN.av 3 σ' Zm nb' N' c') (hc:c'=true→∀e∈N,e.av.closed=true)
 (hm:∀e∈N',e∈N∨∃z,e=eN0 z) (hs:(N'.flatMap EN.objs).Sublist (N.flatMap EN.objs)) (ho:∀o∈Zm.obj,o∈vN.obj∨σ.length≤o) (hv:Zm≠.sl false []):Ed σ' d gd Zm vE nb' eb N' E x' y:=by
 have hout:=h.Avj hFo
 refine h.nodes hF (fun o hf=>⟨fun hm=>hout o (List.mem_append_left _ hm) hf,fun hm=>hout o (List.mem_append_right _ (List.mem_append_right _ hm)) hf⟩) hb hn (fun hct e he=>?_) (fun e he=>?_) ?_ hv
 ·rcases hm e he with he|⟨z,rfl⟩
  ·exact hc hct e he
  ·rfl
 ·rcases hm e he with he|⟨z,rfl⟩
  ·exact(h.hN e he).keep fun o hm=>hF.eq o ((h.hN e he).lt o hm) (hout o (List.mem_append_right _ (J8 he hm)))
  ·exact⟨.inl ⟨rfl,rfl,.inl rfl⟩,.inl ⟨rfl,rfl,.inl rfl⟩⟩
 ·have hsub:(vE.obj++Cj N' E).Sublist (vE.obj++Cj N E):=(List.Sublist.refl _).append (hs.append (List.Sublist.refl _))
  have h0:(([d]++vN.obj)++(vE.obj++Cj N' E)).Nodup:=h.nd.sublist ((List.Sublist.refl ([d]++vN.obj)).append hsub)
  refine NQ (A:=[d]) (n:=σ.length) h0 hn.nodup ho fun o hm=>h.QJ o ?_
  rcases hm with hm|hm
  ·simp at hm;simp[hm]
  ·exact List.mem_cons_of_mem _ (List.mem_append_right _ (hsub.subset hm))
theorem Ed.Aot (h:Ed σ d gd vN vE nb eb N E x y) {F:List Nat} (hF:Fr σ σ' F) (hFo:∀o∈F,o=d∨o∈vE.obj) {vE':AV} {eb':Bool} {E':List EE} {y':Int} {c':Bool}
 (hb:nth σ' d=some (.arr gd 4 true false [.agg [vN,vE',.int .i64 x,.int .i64 y']])) (hn:Hd EE.av 5 σ' vE' eb' E' c') (hc:c'=true→∀e∈E,e.av.closed=true)
 (hm:∀e∈E',e∈E∨∃z a b s,e=eE0 z a b s) (hs:(E'.flatMap EE.objs).Sublist (E.flatMap EE.objs)) (ho:∀o∈vE'.obj,o∈vE.obj∨σ.length≤o) (hv:vE'≠.sl false []):Ed σ' d gd vN vE' nb eb' N E' x y':=by
 have hout:=h.Avk hFo
 refine h.edges hF (fun o hf=>⟨fun hm=>hout o (List.mem_append_left _ hm) hf,fun hm=>hout o (List.mem_append_right _ (List.mem_append_left _ hm)) hf⟩) hb hn (fun hct e he=>?_) (fun e he=>?_) ?_ hv
 ·rcases hm e he with he|⟨z,a,b,s,rfl⟩
  ·exact hc hct e he
  ·rfl
 ·rcases hm e he with he|⟨z,a,b,s,rfl⟩
  ·exact(h.hE e he).keep fun o hm=>hF.eq o ((h.hE e he).lt o hm) (hout o (List.mem_append_right _ (ML he hm)))
  ·exact .inl ⟨rfl,rfl,.inl rfl⟩
 ·have hsub:(Cj N E').Sublist (Cj N E):=(List.Sublist.refl _).append hs
  have h0:(([d]++vN.obj)++vE.obj++Cj N E').Nodup:=by
   have:=h.nd.sublist ((List.Sublist.refl (([d]++vN.obj)++vE.obj)).append hsub |>.trans (by simp[List.append_assoc]))
   exact this
  have h1:=NQ (A:=[d]++vN.obj) (n:=σ.length) h0 hn.nodup ho fun o hm=>h.QJ o (by
   rcases hm with hm|hm
   ·rcases List.mem_append.1 hm with hm|hm
    ·simp at hm;simp[hm]
    ·simp[hm]
   ·have:=hsub.subset hm
    simp[this])
  simpa[List.append_assoc]using h1
end
structure Ask (N:List EN) (E:List EE) (x y:Int):Prop where
 lN:N.length≤2000
 lE:E.length≤4000
 iN:Inc BX GN.id (N.map EN.n)
 iE:Inc BX GE.id (E.map EE.e)
 iL:∀e∈N,Inc Op.bytesLess id e.n.labels∧e.n.labels.length≤8
 iP:∀e∈N,Inc Op.bytesLess GP.key e.n.props∧e.n.props.length≤16
 iQ:∀e∈E,Inc Op.bytesLess GP.key e.e.props∧e.e.props.length≤16
 bx:-2^62≤x∧x≤2^62
 by_:-2^62≤y∧y≤2^62
section
variable {σ:List Obj} {d gd:Nat} {vN vE:AV} {nb eb:Bool} {N:List EN} {E:List EE} {x y:Int} {ct:Nat} {K:Bf→Aq→Prop}
theorem RI {nb eb:Bool} {z:Int} (hq:Ask N E x y) (hf:∃n∈N,n.n.id=z):∃i,AtK BX GN.id z (N.map EN.n) i∧Ag (Ac tab) 140 [.DR (LP nb eb N E x y).av.cells,.int .i64 z] (· =.BG [.int .i64 (i:Nat),.bool true]):=by
 obtain⟨_,⟨i,b,rfl,h1,h2⟩,hd⟩:=(AhG (g:=LP nb eb N E x y) (x:=z) (by have:=hq.lN;simp[LP];omega) hq.iN).IJ
 obtain⟨n,hn,e⟩:=hf
 rw[h2.2 ⟨n.n,by simp only[LP,List.mem_map];exact⟨n,hn,rfl⟩,e⟩]at hd
 exact⟨i,h1,hd⟩
theorem WU {nb eb:Bool} {z:Int} (hq:Ask N E x y) (hf:¬∃n∈N,n.n.id=z):∃i,AtK BX GN.id z (N.map EN.n) i∧Ag (Ac tab) 140 [.DR (LP nb eb N E x y).av.cells,.int .i64 z] (· =.BG [.int .i64 (i:Nat),.bool false]):=by
 obtain⟨_,⟨i,b,rfl,h1,h2⟩,hd⟩:=(AhG (g:=LP nb eb N E x y) (x:=z) (by have:=hq.lN;simp[LP];omega) hq.iN).IJ
 cases b
 ·exact⟨i,h1,hd⟩
 ·obtain⟨n,hn,e⟩:=h2.1 rfl
  simp only[LP,List.mem_map]at hn
  obtain⟨m,hm,rfl⟩:=hn
  exact absurd ⟨m,hm,e⟩ hf
theorem Ask.deep (hq:Ask N E x y):21+N.length+E.length≤999999:=by have:=hq.lN;have:=hq.lE;omega
set_option maxHeartbeats 1000000 in
theorem Ant {z fr to:Int} {nm:List UInt8} {v:GV} (h:Ed σ d gd vN vE nb eb N E x y) (hq:Ask N E x y) (hz:1≤z∧z≤1000000)
 (hP:(∃ n∈N,n.n.id=z)→∀σ' c',Fr σ σ' []→K (.Ei (.iface 118 (.int .i64 7))) ⟨σ',c'⟩)
 (hQ:(¬ ∃n∈N,n.n.id=z)→¬N.length<2000→∀σ' c',Fr σ σ' []→K (.Ei (.iface 118 (.int .i64 20))) ⟨σ',c'⟩)
 (hR:(¬ ∃n∈N,n.n.id=z)→N.length<2000→∀σ' c' Zm N',Ed σ' d gd Zm vE true eb N' E (if z+1>x then z+1 else x) y→N'.map EN.n=A8 BX GN.id ⟨z,false,[],false,[]⟩ (N.map EN.n)→Fr σ σ' (d::(vN.obj++(vE.obj++Cj N E)))→K (.ok (.BG [])) ⟨σ',c'⟩):
 Am (Ac tab) 85 [.ref d gd 0 0,(GC.mk 1 z fr to nm v).av] ⟨σ,ct⟩ K:=by
 have DY:=hq.deep
 have hlN:=hq.lN
 have hbx:=hq.bx
 show Am (Ac tab) _ [.ref d gd 0 0,.agg [.int .i64 1,.int .i64 z,.int .i64 fr,.int .i64 to,.str nm,.int .i64 v.k,.int .i64 v.n,.int .i64 v.d,.str v.s,.sl v.nn v.l]] _ _
 by_cases hf:∃n∈N,n.n.id=z
 ·obtain⟨i,q1,hbt⟩:=RI (nb:=nb) (eb:=eb) hq hf
  refine Ah rfl rfl ?_
  (conv=>whnf);repeat' (first|(refine Dh fun σ1 f1 h1 l1=>?_;have hE1:=h.P8 f1;conv=>whnf)|(apply Ae (hE1.Ux 999999 DY);conv=>whnf)|(refine Aa hbt ?_;rintro _ rfl;conv=>whnf)|(refine Kz ?_;conv=>whnf)|(rw [h1];conv=>whnf)|refine kA ?_;conv=>whnf|(apply Br.mk<;>intro hc<;>first|exact hc.elim|conv=>whnf)|refine kB ?_)
  all_goals first|exact hP hf _ _ f1
 ·obtain⟨i,q1,hbt⟩:=WU (nb:=nb) (eb:=eb) hq hf
  by_cases hlen:N.length<2000
  ·obtain⟨cn,hn1,hn2⟩:=h.hn
   rcases hn1 with⟨rfl,rfl,rfl|⟨o,g,es',rfl,ho⟩⟩|⟨rfl,o,g,rfl,ho⟩
   ·exact absurd rfl h.oN
   ·obtain rfl:i=0:=by simpa using q1.le
    refine Ah rfl rfl ?_
    (conv=>whnf);repeat' (first|(refine Dh fun σ1 f1 h1 l1=>?_;have hE1:=h.P8 f1;have hd1:=hE1.box;have ho1:=f1.get ho (by simp);conv=>whnf)|(apply Ae (hE1.Ux 999999 DY);conv=>whnf)|(refine Aa hbt ?_;rintro _ rfl;conv=>whnf)|(refine Fp ?_;conv=>whnf)|(rw [h1];conv=>whnf)|(rw [hd1];conv=>whnf)|(refine Vm (x:=GN.av ⟨z,false,[],false,[]⟩) rfl rfl (by omega) ho1 fun σ2 f2 h2=>?_;have hd2:=f2.get hd1 (by simp);have h12:=f2.get h1 (by simp);conv=>whnf)|(rw [hd2];conv=>whnf)|refine kA ?_;conv=>whnf|(apply Br.mk<;>intro hc<;>first|exact hc.elim|conv=>whnf)|refine kB ?_)
    have hns:σ.length∉[d]:=by have:=Dc h.box;simp;omega
    refine F7 hd2 fun σ3 f3 h3 l3=>?_
    have h13:=f3.get h12 hns
    (conv=>whnf);repeat' (first|(rw [h3];conv=>whnf)|(rw [h13];conv=>whnf)|refine kA ?_;conv=>whnf|(apply Br.mk<;>intro hc<;>first|exact hc.elim|conv=>whnf)|refine kB ?_)
    refine F7 h3 fun σ4 f4 h4 l4=>?_
    (conv=>whnf);repeat' (first  |refine kA ?_;conv=>whnf|(apply Br.mk<;>intro hc<;>first|exact hc.elim|conv=>whnf)|refine kB ?_)
    have hF:Fr σ σ4 [d]:=(((f1.mono (by simp)).trans (f2.mono (by simp))).trans f3).trans f4
    have hdl:=Dc h.box
    have h24:nth σ4 σ1.length=some (.arr (ct+1) 3 true true (vs EN.av [eN0 z])):=f4.get (f3.get h2 (by have:=f1.len;simp;dsimp only at this;omega)) (by have:=f1.len;simp;dsimp only at this;omega)
    have hed:Ed σ4 d gd (.own σ1.length (ct+1) 0 1) vE true eb [eN0 z] E (if z+1>x then z+1 else x) y:=
     h.AoN hF (by simp) h4 (.inr ⟨rfl,_,_,rfl,h24⟩) (fun _ e he=>by simp at he) (fun e he=>.inr ⟨z,by simpa using he⟩) (by simp[eN0,EN.objs,AV.obj]) (fun o ho=>.inr (by simp only[AV.obj,List.mem_singleton]at ho;subst ho;exact f1.len)) (by simp)
    exact hR hf hlen _ _ _ _ hed rfl (hF.mono (by simp))
   ·have hil:=q1.le
    rw[List.length_map]at hil
    have hno:σ.length∉[o]:=by have:=Dc ho;simp;omega
    have hdo:d∉[o]:=by have:=h.nd;simp[AV.obj]at this;simpa using this.1.1
    refine Ah rfl rfl ?_
    (conv=>whnf);repeat' (first|(refine Dh fun σ1 f1 h1 l1=>?_;have hE1:=h.P8 f1;have hd1:=hE1.box;have ho1:=f1.get ho (by simp);conv=>whnf)|(apply Ae (hE1.Ux 999999 DY);conv=>whnf)|(refine Aa hbt ?_;rintro _ rfl;conv=>whnf)|(refine Fp ?_;conv=>whnf)|(rw [h1];conv=>whnf)|(rw [hd1];conv=>whnf)|(refine ZE (fv:=EN.av) (x:=eN0 z) rfl rfl (by omega) rfl hil ho1 fun σ2 f2 h2=>?_;have hd2:=f2.get hd1 hdo;have h12:=f2.get h1 hno;conv=>whnf)|(rw [hd2];conv=>whnf)|refine kA ?_;conv=>whnf|(apply Br.mk<;>intro hc<;>first|exact hc.elim|conv=>whnf)|refine kB ?_)
    refine F7 hd2 fun σ3 f3 h3 l3=>?_
    have hdl:=Dc h.box
    have h13:=f3.get h12 (by simp;omega)
    (conv=>whnf);repeat' (first|(rw [h3];conv=>whnf)|(rw [h13];conv=>whnf)|refine kA ?_;conv=>whnf|(apply Br.mk<;>intro hc<;>first|exact hc.elim|conv=>whnf)|refine kB ?_)
    refine F7 h3 fun σ4 f4 h4 l4=>?_
    (conv=>whnf);repeat' (first  |refine kA ?_;conv=>whnf|(apply Br.mk<;>intro hc<;>first|exact hc.elim|conv=>whnf)|refine kB ?_)
    have hF:Fr σ σ4 [d,o]:=(((f1.mono (by simp)).trans (f2.mono (by simp))).trans (f3.mono (by simp))).trans (f4.mono (by simp))
    have hod:o∉[d]:=fun hm=>hdo (by simp at hm ⊢;exact hm.symm)
    have h24:nth σ4 o=some (.arr (ct+1) 3 true cn (vs EN.av (N.take i++[eN0 z]++N.drop i))):=f4.get (f3.get h2 hod) hod
    have hl4:(N.take i++[eN0 z]++N.drop i).length=N.length+1:=by simp only[List.length_append,List.length_take,List.length_drop,List.length_singleton];omega
    have hed:Ed σ4 d gd (.own o (ct+1) 0 (N.length+1)) vE true eb (N.take i++[eN0 z]++N.drop i) E (if z+1>x then z+1 else x) y:=
     h.AoN hF (by simp[AV.obj]) h4 (.inr ⟨rfl,_,_,by rw[hl4],h24⟩) hn2 (fun e he=>by
         rcases List.mem_append.1 he with he|he
         ·rcases List.mem_append.1 he with he|he
          ·exact .inl (List.mem_of_mem_take he)
          ·exact .inr ⟨z,by simpa using he⟩
         ·exact .inl (List.mem_of_mem_drop he)) (by
         rw[List.flatMap_append,List.flatMap_append,show[eN0 z].flatMap EN.objs=[] from rfl,List.append_nil,←List.flatMap_append,List.take_append_drop]
         exact List.Sublist.refl _) (fun o ho=>.inl ho) (by simp)
    exact hR hf hlen _ _ _ _ hed (by
     refine Eq.trans ?_ (AtK.ins (key:=GN.id) (x:=(⟨z,false,[],false,[]⟩:GN)) Ak q1 (fun n hn e=>hf (by obtain⟨m,hm,rfl⟩:=List.mem_map.1 hn;exact⟨m,hm,e⟩)))
     simp only[List.map_append,List.map_take,List.map_drop];rfl) (hF.mono (by simp[AV.obj]))
  ·obtain⟨cn,hn1,hn2⟩:=h.hn
   rcases hn1 with⟨rfl,rfl,rfl|⟨o,g,es',rfl,ho⟩⟩|⟨rfl,o,g,rfl,ho⟩
   ·exact absurd rfl h.oN
   ·exact absurd (by simp) hlen
   ·refine Ah rfl rfl ?_
    (conv=>whnf);repeat' (first|(refine Dh fun σ1 f1 h1 l1=>?_;have hE1:=h.P8 f1;have hd1:=hE1.box;conv=>whnf)|(apply Ae (hE1.Ux 999999 DY);conv=>whnf)|(refine Aa hbt ?_;rintro _ rfl;conv=>whnf)|(refine Fp ?_;conv=>whnf)|(refine Kz ?_;conv=>whnf)|(rw [h1];conv=>whnf)|(rw [hd1];conv=>whnf)|refine kA ?_;conv=>whnf|(apply Br.mk<;>intro hc<;>first|exact hc.elim|conv=>whnf)|refine kB ?_)
    all_goals first|exact hQ hf hlen _ _ f1
end
section
variable {σ:List Obj} {d gd:Nat} {vN vE:AV} {nb eb:Bool} {N:List EN} {E:List EE} {x y:Int} {ct:Nat} {K:Bf→Aq→Prop}
theorem Ed.at (h:Ed σ d gd vN vE nb eb N E x y) (hq:Ask N E x y) {z:Int} (hf:∃n∈N,n.n.id=z):nb=true∧∃o g c i,∃hi:i<N.length,vN=.own o g 0 N.length∧nth σ o=some (.arr g 3 true c (vs EN.av N))∧(c=true→∀e∈N,e.av.closed=true)∧(N[i]).n.id=z∧AtK BX GN.id z (N.map EN.n) i∧
 Ag (Ac tab) 140 [.DR (LP nb eb N E x y).av.cells,.int .i64 z] (· =.BG [.int .i64 (i:Nat),.bool true]):=by
 obtain⟨i,q1,hbt⟩:=RI (nb:=nb) (eb:=eb) hq hf
 obtain⟨n,hn,e⟩:=hf
 obtain⟨hil,hid,_⟩:=q1.found Ak hq.iN ⟨n.n,List.mem_map_of_mem hn,e⟩
 rw[List.length_map]at hil
 obtain⟨cn,hn1,hn2⟩:=h.hn
 rcases hn1 with⟨_,rfl,_⟩|⟨rfl,o,g,rfl,ho⟩
 ·simp at hil
 ·exact⟨rfl,o,g,cn,i,hil,rfl,ho,hn2,by simpa using hid,q1,hbt⟩
theorem Ua {α:Type} {f:α→AV} {l:List α} {i:Nat} {a:α}:(vs f l).set i (f a)=vs f (l.set i a):=by simp[vs,List.map_set]
set_option maxHeartbeats 2000000 in
theorem Aka {op z fr to:Int} {nm:List UInt8} {v:GV} (h:Ed σ d gd vN vE nb eb N E x y) (hq:Ask N E x y) (hz:1≤z∧z≤1000000) (hop:op=2∨op=3∨op=4∨op=5) (hf:¬∃n∈N,n.n.id=z)
 (hP:∀σ' c',Fr σ σ' []→K (.Ei (.iface 118 (.int .i64 10))) ⟨σ',c'⟩):
 Am (Ac tab) 85 [.ref d gd 0 0,(GC.mk op z fr to nm v).av] ⟨σ,ct⟩ K:=by
 have DY:=hq.deep
 obtain⟨i,q1,hbt⟩:=WU (nb:=nb) (eb:=eb) hq hf
 show Am (Ac tab) _ [.ref d gd 0 0,.agg [.int .i64 op,.int .i64 z,.int .i64 fr,.int .i64 to,.str nm,.int .i64 v.k,.int .i64 v.n,.int .i64 v.d,.str v.s,.sl v.nn v.l]] _ _
 rcases hop with rfl|rfl|rfl|rfl
 all_goals
  refine Ah rfl rfl ?_
  (conv=>whnf);repeat' (first|(refine Dh fun σ1 f1 h1 l1=>?_;have hE1:=h.P8 f1;conv=>whnf)|(apply Ae (hE1.Ux 999999 DY);conv=>whnf)|(refine Aa hbt ?_;rintro _ rfl;conv=>whnf)|(refine Kz ?_;conv=>whnf)|(rw [h1];conv=>whnf)|refine kA ?_;conv=>whnf|(apply Br.mk<;>intro hc<;>first|exact hc.elim|conv=>whnf)|refine kB ?_)
  all_goals first|exact hP _ _ f1
set_option maxHeartbeats 2000000 in
theorem Anv {z fr to:Int} {nm:List UInt8} {v:GV} (h:Ed σ d gd vN vE nb eb N E x y) (hq:Ask N E x y) (hz:1≤z∧z≤1000000) (hf:∃n∈N,n.n.id=z)
 (hP:(∃ n∈N.map EN.n,n.id=z∧nm∈n.labels)→∀σ' c',Fr σ σ' []→K (.Ei (.iface 118 (.int .i64 7))) ⟨σ',c'⟩)
 (hQ:(∃ n∈N.map EN.n,n.id=z∧nm∉n.labels∧¬n.labels.length<8)→∀σ' c',Fr σ σ' []→K (.Ei (.iface 118 (.int .i64 20))) ⟨σ',c'⟩)
 (hR:∀n∈N.map EN.n,n.id=z→nm∉n.labels→n.labels.length<8→∀σ' c' N',Ed σ' d gd vN vE nb eb N' E x y→N'.map EN.n=A8 BX GN.id {n with ln:=true,labels:=A8 Op.bytesLess id nm n.labels} (N.map EN.n)→Fr σ σ' (d::(vN.obj++(vE.obj++Cj N E)))→K (.ok (.BG [])) ⟨σ',c'⟩):
 Am (Ac tab) 85 [.ref d gd 0 0,(GC.mk 3 z fr to nm v).av] ⟨σ,ct⟩ K:=by
 have DY:=hq.deep
 have hlN:=hq.lN
 obtain⟨rfl,o,g,cn,i,hi,rfl,ho,hcn,hid,q1,hbt⟩:=h.at hq hf
 have hmem:N[i]∈N:=List.getElem_mem hi
 have hok:=h.hN _ hmem
 obtain⟨hil,hl8⟩:=hq.iL _ hmem
 have hap:=h.Jy hi
 show Am (Ac tab) _ [.ref d gd 0 0,.agg [.int .i64 3,.int .i64 z,.int .i64 fr,.int .i64 to,.str nm,.int .i64 v.k,.int .i64 v.n,.int .i64 v.d,.str v.s,.sl v.nn v.l]] _ _
 obtain⟨e,he⟩:∃e,e=N[i]:=⟨_,rfl⟩
 rw[← he]at hok hil hl8
 have hnt:nth (vs EN.av N) (Int.toNat (i:Int))=some e.av:=by rw[he];exact nV hi
 have NM:nth (vs EN.av N) i=some e.av:=by rw[he];exact nV hi
 obtain⟨n,lv,pv⟩:=e
 have hok1:Hd .str 1 σ lv n.ln n.labels true:=hok.1
 have hok2:Hd GP.av 6 σ pv n.pn n.props true:=hok.2
 replace hl8:n.labels.length≤8:=hl8
 replace hil:Inc Op.bytesLess id n.labels:=hil
 have hmm:n∈N.map EN.n:=by rw[show n=(N[i]).n by rw[← he]];exact List.mem_map_of_mem hmem
 have hnz:n.id=z:=by rw[show n=(N[i]).n by rw[← he]];exact hid
 have hbs:=fun(nn:Bool)=>(bsS (nn:=nn) (x:=nm) (l:=n.labels) (by omega) hil).IJ
 by_cases hin:nm∈n.labels
 ·have hbq:∀nn,∃j:Nat,Ag (Ac tab) 144 [.sl nn (vs .str n.labels),.str nm] (· =.BG [.int .i64 j,.bool true]):=fun nn=>by
   obtain⟨_,⟨j,b,rfl,r1,r2⟩,hd⟩:=hbs nn
   rw[r2.2 ⟨nm,hin,rfl⟩]at hd
   exact⟨j,hd⟩
  rcases hok1 with⟨hb,hl0,_⟩|⟨hb,ol,gl,rfl,hol⟩
  ·rw[hl0]at hin;simp at hin
  ·obtain⟨j,hbj⟩:=hbq true
   refine Ah rfl rfl ?_
   (conv=>whnf);repeat' (first|(refine Dh fun σ1 f1 h1 l1=>?_;have hE1:=h.P8 f1;have hd1:=hE1.box;have ho1:=f1.get ho (by simp);have hl1:=f1.get hol (by simp);conv=>whnf)|(apply Ae (hE1.Ux 999999 DY);conv=>whnf)|((first|refine Aa hbt ?_|refine Aa hbj ?_);rintro _ rfl;conv=>whnf)|(refine Fp ?_;conv=>whnf)|(refine Kz ?_;conv=>whnf)|(rw [h1];conv=>whnf)|(rw [hd1];conv=>whnf)|(rw [ho1];conv=>whnf)|(rw [hl1];conv=>whnf)|(refine Au hnt ?_;conv=>whnf)|(refine Au NM ?_;conv=>whnf)|refine kA ?_;conv=>whnf|(apply Br.mk<;>intro hc<;>first|exact hc.elim|conv=>whnf)|refine kB ?_)
   all_goals first|exact hP ⟨n,hmm,hnz,hin⟩ _ _ f1
 ·have hbq:∀nn,∃j:Nat,AtK Op.bytesLess id nm n.labels j∧Ag (Ac tab) 144 [.sl nn (vs .str n.labels),.str nm] (· =.BG [.int .i64 j,.bool false]):=fun nn=>by
   obtain⟨_,⟨j,b,rfl,r1,r2⟩,hd⟩:=hbs nn
   cases b
   ·exact⟨j,r1,hd⟩
   ·obtain⟨w,hw,rfl⟩:=r2.1 rfl
    exact absurd hw hin
  have hno:∀w∈n.labels,id w≠nm:=fun w hw e=>hin (e▸hw)
  have hdl:=Dc h.box
  have AxD:=Dc ho
  have fin:∀σ1 σ2 σ3 c' lv',Fr σ σ1 []→Fr σ1 σ2 lv.obj→Fr σ2 σ3 [o]→nth σ3 o=some (.arr g 3 true false (vs EN.av (N.set i ⟨{n with ln:=true,labels:=A8 Op.bytesLess id nm n.labels},lv',pv⟩)))→
        Hd .str 1 σ2 lv' true (A8 Op.bytesLess id nm n.labels) true→(∀ q∈lv'.obj,q∈lv.obj∨σ1.length≤q)→n.labels.length<8→K (.ok (.BG [])) ⟨σ3,c'⟩:=by
   intro σ1 σ2 σ3 c' lv' f1 f2 f3 h3 h2 hob hlt
   have OX:(N[i]).objs=lv.obj++pv.obj:=by rw[← he];rfl
   have hov:∀q∈lv.obj++pv.obj,q≠o:=fun q hq e=>(hap q (.inr (by rw[OX];exact hq))).2.2.2.2 (by rw[OX];exact hq) |>.1 (by simp[AV.obj,e])
   have hnd:(lv.obj++pv.obj).Nodup:=by
        have h0:=h.nd
        rw[NK hi,OX,List.nodup_cons,List.nodup_append,List.nodup_append,List.nodup_append,List.nodup_append]at h0
        exact h0.2.2.1.2.1.1.2.1
   have hlp:∀q∈pv.obj,q<σ.length:=hok2.lt
   have hll:∀q∈lv.obj,q<σ.length:=hok1.lt
   have hF:Fr σ σ3 (o::(N[i]).objs):=((f1.mono (by simp)).trans (f2.mono (fun q hq=>.inl (by rw[OX];simp[hq])))).trans (f3.mono (by simp))
   have hlv:∀q∈lv'.obj,q≠o∧q∉pv.obj:=fun q hq=>by
        rcases hob q hq with hm|hm
        ·exact⟨hov q (List.mem_append_left _ hm),fun hp=>(List.nodup_append.1 hnd).2.2 q hm q hp rfl⟩
        ·have:=f1.len;exact⟨by omega,fun hp=>by have:=hlp q hp;omega⟩
   have h23:Hd .str 1 σ3 lv' true (A8 Op.bytesLess id nm n.labels) true:=h2.keep fun q hq=>f3.eq q (h2.lt q hq) (by simpa using(hlv q hq).1)
   have hp3:Hd GP.av 6 σ3 pv n.pn n.props true:=hok2.keep fun q hq=>by
        have hql:=hlp q hq
        refine(f3.eq q (by have:=f1.len;have:=f2.len;omega) (by simpa using hov q (List.mem_append_right _ hq))).trans ((f2.eq q (by have:=f1.len;omega) fun hm=>(List.nodup_append.1 hnd).2.2 q hm q hq rfl).trans (f1.eq q hql (by simp)))
   refine hR n hmm hnz hin hlt σ3 c' _ (h.setNode hi hF h3 (by simp) ⟨h23,hp3⟩ (fun q hq=>?_) ?_) ?_ (hF.mono fun q hq=>?_)
   ·rcases List.mem_append.1 hq with hq|hq
    ·rcases hob q hq with hm|hm
     ·exact .inl (by rw[OX];exact List.mem_append_left _ hm)
     ·have:=f1.len;exact .inr (by omega)
    ·exact .inl (by rw[OX];exact List.mem_append_right _ hq)
   ·exact List.nodup_append.2 ⟨h2.nodup,hok2.nodup,fun a ha b hb e=>(hlv a ha).2 (e▸hb)⟩
   ·rw[List.map_set]
    refine AtK.set (key:=GN.id) (x:={n with ln:=true,labels:=A8 Op.bytesLess id nm n.labels}) Ak hq.iN (by rw[show GN.id _=z from hnz];exact q1) ⟨n,hmm,rfl⟩
   ·rcases List.mem_cons.1 hq with rfl|hq
    ·exact .inl (by simp[AV.obj])
    ·exact .inl (by simp[J8 hmem hq])
  by_cases hlt:n.labels.length<8
  ·rcases hok1 with⟨hb,hl0,rfl|⟨ol,gl,el,rfl,hol⟩⟩|⟨hb,ol,gl,rfl,hol⟩
   ·obtain⟨j,hj,hbj⟩:=hbq false
    rw[hl0]at hbj hj
    obtain rfl:j=0:=by simpa using hj.le
    refine Ah rfl rfl ?_
    (conv=>whnf);repeat' (first|(refine Dh fun σ1 f1 h1 l1=>?_;have hE1:=h.P8 f1;have hd1:=hE1.box;have ho1:=f1.get ho (by simp);conv=>whnf)|(apply Ae (hE1.Ux 999999 DY);conv=>whnf)|((first|refine Aa hbt ?_|refine Aa hbj ?_);rintro _ rfl;conv=>whnf)|(refine Fp ?_;conv=>whnf)|(rw [h1];conv=>whnf)|(rw [hd1];conv=>whnf)|(rw [ho1];conv=>whnf)|(refine Au hnt ?_;conv=>whnf)|(refine Au NM ?_;conv=>whnf)|(refine Ag9 (x:=.str nm) rfl rfl (by omega) fun σ2 f2 h2=>?_;have ho2:=f2.get ho1 (by simp);conv=>whnf)|(rw [ho2];conv=>whnf)|(refine F7 ho2 fun σ3 f3 h3 l3=>?_;conv=>whnf)|refine kA ?_;conv=>whnf|(apply Br.mk<;>intro hc<;>first|exact hc.elim|conv=>whnf)|refine kB ?_)
    all_goals first
     |exact fin σ1 σ2 σ3 _ _ f1 (f2.mono (by simp)) f3 (h3.trans (by rw[← Ua];rfl)) (.inr ⟨rfl,_,_,by rw[hl0];rfl,by rw[hl0];exact h2⟩) (fun q hq=>.inr (by simp only[AV.obj,List.mem_singleton]at hq;subst hq;exact Nat.le_refl _)) hlt
   ·obtain⟨j,hj,hbj⟩:=hbq false
    rw[hl0]at hbj hj
    obtain rfl:j=0:=by simpa using hj.le
    refine Ah rfl rfl ?_
    (conv=>whnf);repeat' (first|(refine Dh fun σ1 f1 h1 l1=>?_;have hE1:=h.P8 f1;have hd1:=hE1.box;have ho1:=f1.get ho (by simp);have hl1:=f1.get hol (by simp);conv=>whnf)|(apply Ae (hE1.Ux 999999 DY);conv=>whnf)|((first|refine Aa hbt ?_|refine Aa hbj ?_);rintro _ rfl;conv=>whnf)|(refine Fp ?_;conv=>whnf)|(rw [h1];conv=>whnf)|(rw [hd1];conv=>whnf)|(rw [ho1];conv=>whnf)|(refine Au hnt ?_;conv=>whnf)|(refine Au NM ?_;conv=>whnf)|(rw [hl1];conv=>whnf)|(refine Vm (x:=.str nm) rfl rfl (by omega) hl1 fun σ2 f2 h2=>?_;have ho2:=f2.get ho1 (by simp);conv=>whnf)|(rw [ho2];conv=>whnf)|(refine F7 ho2 fun σ3 f3 h3 l3=>?_;conv=>whnf)|refine kA ?_;conv=>whnf|(apply Br.mk<;>intro hc<;>first|exact hc.elim|conv=>whnf)|refine kB ?_)
    all_goals first
     |exact fin σ1 σ2 σ3 _ _ f1 (f2.mono (by simp)) f3 (h3.trans (by rw[← Ua];rfl)) (.inr ⟨rfl,_,_,by rw[hl0];rfl,by rw[hl0];exact h2⟩) (fun q hq=>.inr (by simp only[AV.obj,List.mem_singleton]at hq;subst hq;exact Nat.le_refl _)) hlt
   ·obtain⟨j,hj,hbj⟩:=hbq true
    have hjl:=hj.le
    have hoo:o∉[ol]:=by
     have:=(hap ol (.inr (by rw[← he];simp[EN.objs,AV.obj]))).2.2.2.2 (by rw[← he];simp[EN.objs,AV.obj]) |>.1
     simpa[AV.obj,eq_comm]using this
    refine Ah rfl rfl ?_
    (conv=>whnf);repeat' (first|(refine Dh fun σ1 f1 h1 l1=>?_;have hE1:=h.P8 f1;have hd1:=hE1.box;have ho1:=f1.get ho (by simp);have hl1:=f1.get hol (by simp);conv=>whnf)|(apply Ae (hE1.Ux 999999 DY);conv=>whnf)|((first|refine Aa hbt ?_|refine Aa hbj ?_);rintro _ rfl;conv=>whnf)|(refine Fp ?_;conv=>whnf)|(rw [h1];conv=>whnf)|(rw [hd1];conv=>whnf)|(rw [ho1];conv=>whnf)|(refine Au hnt ?_;conv=>whnf)|(refine Au NM ?_;conv=>whnf)|(rw [hl1];conv=>whnf)|(refine ZE (fv:=.str) (x:=nm) rfl rfl (by omega) rfl hjl hl1 fun σ2 f2 h2=>?_;have ho2:=f2.get ho1 hoo;conv=>whnf)|(rw [ho2];conv=>whnf)|(refine F7 ho2 fun σ3 f3 h3 l3=>?_;conv=>whnf)|refine kA ?_;conv=>whnf|(apply Br.mk<;>intro hc<;>first|exact hc.elim|conv=>whnf)|refine kB ?_)
    have hp:=AtK.ins (key:=id) (x:=nm) Ai hj hno
    have hlen2:n.labels.length+1=(A8 Op.bytesLess id nm n.labels).length:=by rw[← hp,List.length_append,List.length_append,List.length_take,List.length_drop,List.length_singleton];omega
    rw[hp]at h2
    exact fin σ1 σ2 σ3 _ (.own ol _ 0 (n.labels.length+1)) f1 f2 f3 (h3.trans (by rw[← Ua];rfl)) (.inr ⟨rfl,_,_,by rw[hlen2],h2⟩) (fun q hq=>.inl hq) hlt
  ·rcases hok1 with⟨hb,hl0,_⟩|⟨hb,ol,gl,rfl,hol⟩
   ·rw[hl0]at hlt;simp at hlt
   ·obtain⟨j,_,hbj⟩:=hbq true
    refine Ah rfl rfl ?_
    (conv=>whnf);repeat' (first|(refine Dh fun σ1 f1 h1 l1=>?_;have hE1:=h.P8 f1;have hd1:=hE1.box;have ho1:=f1.get ho (by simp);have hl1:=f1.get hol (by simp);conv=>whnf)|(apply Ae (hE1.Ux 999999 DY);conv=>whnf)|((first|refine Aa hbt ?_|refine Aa hbj ?_);rintro _ rfl;conv=>whnf)|(refine Fp ?_;conv=>whnf)|(refine Kz ?_;conv=>whnf)|(rw [h1];conv=>whnf)|(rw [hd1];conv=>whnf)|(rw [ho1];conv=>whnf)|(rw [hl1];conv=>whnf)|(refine Au hnt ?_;conv=>whnf)|(refine Au NM ?_;conv=>whnf)|refine kA ?_;conv=>whnf|(apply Br.mk<;>intro hc<;>first|exact hc.elim|conv=>whnf)|refine kB ?_)
    all_goals first|exact hQ ⟨n,hmm,hnz,hin,hlt⟩ _ _ f1
end
section
variable {σ σ1 σ2 σ3:List Obj} {d gd:Nat} {vN vE:AV} {nb eb:Bool} {N:List EN} {E:List EE} {x y:Int} {ct:Nat} {K:Bf→Aq→Prop}
theorem Ed.ndN (h:Ed σ d gd vN vE nb eb N E x y) {i:Nat} (hi:i<N.length):(N[i]).objs.Nodup:=by
 have h0:=h.nd
 rw[NK hi,List.nodup_cons,List.nodup_append,List.nodup_append,List.nodup_append,List.nodup_append]at h0
 exact h0.2.2.1.2.1.1.2.1
theorem Ed.ndE (h:Ed σ d gd vN vE nb eb N E x y) {i:Nat} (hi:i<E.length):(E[i]).objs.Nodup:=by
 have h0:=h.nd
 rw[OW hi,List.nodup_cons,List.nodup_append,List.nodup_append,List.nodup_append,List.nodup_append]at h0
 exact h0.2.2.1.2.1.1.2.1
theorem Ed.ArF {o g i:Nat} (h:Ed σ d gd (.own o g 0 N.length) vE true eb N E x y) (hi:i<N.length) {e':EN} {c':Bool} (f1:Fr σ σ1 []) (f2:Fr σ1 σ2 (N[i]).objs) (f3:Fr σ2 σ3 [o])
 (h3:nth σ3 o=some (.arr g 3 true c' (vs EN.av (N.set i e')))) (hc:c'=true→∀e∈N.set i e',e.av.closed=true) (hok:e'.Ok σ2) (hob:∀q∈e'.objs,q∈(N[i]).objs∨σ1.length≤q) (hnd:e'.objs.Nodup):
 Ed σ3 d gd (.own o g 0 N.length) vE true eb (N.set i e') E x y∧Fr σ σ3 (d::((AV.own o g 0 N.length).obj++(vE.obj++Cj N E))):=by
 have hap:=h.Jy hi
 have hol:o<σ.length:=h.QJ o (by simp[AV.obj])
 have hF:Fr σ σ3 (o::(N[i]).objs):=((f1.mono (by simp)).trans (f2.mono (fun q hq=>.inl (by simp[hq])))).trans (f3.mono (by simp))
 have hne:∀q∈e'.objs,q≠o:=fun q hq e=>by
  rcases hob q hq with hm|hm
  ·exact((hap q (.inr hm)).2.2.2.2 hm).1 (by simp[AV.obj,e])
  ·have:=f1.len;omega
 refine⟨h.setNode hi hF h3 hc (hok.keep fun q hq=>f3.eq q (hok.lt q hq) (by simpa using hne q hq)) (fun q hq=>(hob q hq).imp id fun hm=>by have:=f1.len;omega) hnd,hF.mono fun q hq=>?_⟩
 rcases List.mem_cons.1 hq with rfl|hq
 ·exact .inl (by simp[AV.obj])
 ·exact .inl (by simp[J8 (List.getElem_mem hi) hq])
theorem Ed.Au6 {o g i:Nat} (h:Ed σ d gd vN (.own o g 0 E.length) nb true N E x y) (hi:i<E.length) {e':EE} {c':Bool} (f1:Fr σ σ1 []) (f2:Fr σ1 σ2 (E[i]).objs) (f3:Fr σ2 σ3 [o])
 (h3:nth σ3 o=some (.arr g 5 true c' (vs EE.av (E.set i e')))) (hc:c'=true→∀e∈E.set i e',e.av.closed=true) (hok:e'.Ok σ2) (hob:∀q∈e'.objs,q∈(E[i]).objs∨σ1.length≤q) (hnd:e'.objs.Nodup):
 Ed σ3 d gd vN (.own o g 0 E.length) nb true N (E.set i e') x y∧Fr σ σ3 (d::(vN.obj++((AV.own o g 0 E.length).obj++Cj N E))):=by
 have hap:=h.AcR hi
 have hol:o<σ.length:=h.QJ o (by simp[AV.obj])
 have hF:Fr σ σ3 (o::(E[i]).objs):=((f1.mono (by simp)).trans (f2.mono (fun q hq=>.inl (by simp[hq])))).trans (f3.mono (by simp))
 have hne:∀q∈e'.objs,q≠o:=fun q hq e=>by
  rcases hob q hq with hm|hm
  ·exact((hap q (.inr hm)).2.2.2.2 hm).1 (by simp[AV.obj,e])
  ·have:=f1.len;omega
 refine⟨h.Ak3 hi hF h3 hc (hok.keep fun q hq=>f3.eq q (hok.lt q hq) (by simpa using hne q hq)) (fun q hq=>(hob q hq).imp id fun hm=>by have:=f1.len;omega) hnd,hF.mono fun q hq=>?_⟩
 rcases List.mem_cons.1 hq with rfl|hq
 ·exact .inl (by simp[AV.obj])
 ·exact .inl (by simp[ML (List.getElem_mem hi) hq])
set_option maxHeartbeats 2000000 in
theorem Anw {z fr to:Int} {nm:List UInt8} {v:GV} (h:Ed σ d gd vN vE nb eb N E x y) (hq:Ask N E x y) (hz:1≤z∧z≤1000000) (hf:∃n∈N,n.n.id=z)
 (hP:(∃ n∈N.map EN.n,n.id=z∧nm∉n.labels)→∀σ' c',Fr σ σ' []→K (.Ei (.iface 118 (.int .i64 23))) ⟨σ',c'⟩)
 (hR:∀n∈N.map EN.n,n.id=z→nm∈n.labels→∀σ' c' N',Ed σ' d gd vN vE nb eb N' E x y→N'.map EN.n=A8 BX GN.id {n with ln:=true,labels:=Cc Op.bytesLess id nm n.labels} (N.map EN.n)→Fr σ σ' (d::(vN.obj++(vE.obj++Cj N E)))→K (.ok (.BG [])) ⟨σ',c'⟩):
 Am (Ac tab) 85 [.ref d gd 0 0,(GC.mk 4 z fr to nm v).av] ⟨σ,ct⟩ K:=by
 have DY:=hq.deep
 have hlN:=hq.lN
 obtain⟨rfl,o,g,cn,i,hi,rfl,ho,hcn,hid,q1,hbt⟩:=h.at hq hf
 have hmem:N[i]∈N:=List.getElem_mem hi
 have hok:=h.hN _ hmem
 obtain⟨hil,hl8⟩:=hq.iL _ hmem
 have hap:=h.Jy hi
 have Abx:=h.ndN hi
 show Am (Ac tab) _ [.ref d gd 0 0,.agg [.int .i64 4,.int .i64 z,.int .i64 fr,.int .i64 to,.str nm,.int .i64 v.k,.int .i64 v.n,.int .i64 v.d,.str v.s,.sl v.nn v.l]] _ _
 obtain⟨e,he⟩:∃e,e=N[i]:=⟨_,rfl⟩
 rw[← he]at hok hil hl8 Abx
 have hnt:nth (vs EN.av N) (Int.toNat (i:Int))=some e.av:=by rw[he];exact nV hi
 have NM:nth (vs EN.av N) i=some e.av:=by rw[he];exact nV hi
 obtain⟨n,lv,pv⟩:=e
 have hok1:Hd .str 1 σ lv n.ln n.labels true:=hok.1
 have hok2:Hd GP.av 6 σ pv n.pn n.props true:=hok.2
 replace hl8:n.labels.length≤8:=hl8
 replace hil:Inc Op.bytesLess id n.labels:=hil
 have hmm:n∈N.map EN.n:=by rw[show n=(N[i]).n by rw[← he]];exact List.mem_map_of_mem hmem
 have hnz:n.id=z:=by rw[show n=(N[i]).n by rw[← he]];exact hid
 have hbs:=fun(nn:Bool)=>(bsS (nn:=nn) (x:=nm) (l:=n.labels) (by omega) hil).IJ
 by_cases hin:nm∈n.labels
 ·have hfi:∃w∈n.labels,id w=nm:=⟨nm,hin,rfl⟩
  have hbq:∃j:Nat,AtK Op.bytesLess id nm n.labels j∧Ag (Ac tab) 144 [.sl true (vs .str n.labels),.str nm] (· =.BG [.int .i64 j,.bool true]):=by
   obtain⟨_,⟨j,b,rfl,r1,r2⟩,hd⟩:=hbs true
   rw[r2.2 hfi]at hd
   exact⟨j,r1,hd⟩
  obtain⟨j,hj,hbj⟩:=hbq
  obtain⟨hjl,_,_⟩:=hj.found Ai hil hfi
  rcases hok1 with⟨hb,hl0,_⟩|⟨hb,ol,gl,rfl,hol⟩
  ·rw[hl0]at hin;simp at hin
  ·have hoo:o∉[ol]:=by
        have:=(hap ol (.inr (by rw[← he];simp[EN.objs,AV.obj]))).2.2.2.2 (by rw[← he];simp[EN.objs,AV.obj]) |>.1
        simpa[AV.obj,eq_comm]using this
   refine Ah rfl rfl ?_
   (conv=>whnf);repeat' (first|(refine Dh fun σ1 f1 h1 l1=>?_;have hE1:=h.P8 f1;have hd1:=hE1.box;have ho1:=f1.get ho (by simp);have hl1:=f1.get hol (by simp);conv=>whnf)|(apply Ae (hE1.Ux 999999 DY);conv=>whnf)|((first|refine Aa hbt ?_|refine Aa hbj ?_);rintro _ rfl;conv=>whnf)|(refine Fp ?_;conv=>whnf)|(rw [h1];conv=>whnf)|(rw [hd1];conv=>whnf)|(rw [ho1];conv=>whnf)|(rw [hl1];conv=>whnf)|(refine Au hnt ?_;conv=>whnf)|(refine Au NM ?_;conv=>whnf)|(refine WM rfl rfl hjl rfl hl1 fun σ2 f2 h2=>?_;have ho2:=f2.get ho1 hoo;conv=>whnf)|(rw [ho2];conv=>whnf)|(refine F7 ho2 fun σ3 f3 h3 l3=>?_;conv=>whnf)|refine kA ?_;conv=>whnf|(apply Br.mk<;>intro hc<;>first|exact hc.elim|conv=>whnf)|refine kB ?_)
   have hp:=hj.del Ai hil hfi
   have hlen2:j+(n.labels.length-(j+1))=(Cc Op.bytesLess id nm n.labels).length:=by rw[← hp,List.length_append,List.length_take,List.length_drop];omega
   rw[hp]at h2
   have hpv:∀q∈pv.obj,q∉[ol]:=fun q hq hm=>by
        simp only[List.mem_singleton]at hm
        exact(List.nodup_append.1 Abx).2.2 ol (by simp[AV.obj]) q hq hm.symm
   have hr:=h.ArF (e':=⟨{n with ln:=true,labels:=Cc Op.bytesLess id nm n.labels},.own ol _ 0 (j+(n.labels.length-(j+1))),pv⟩) hi f1 (f2.mono (by rw[← he];simp[EN.objs,AV.obj])) f3 (h3.trans (by rw[← Ua];rfl)) (by simp)
        ⟨.inr ⟨rfl,_,_,by rw[← hlen2],h2⟩,hok2.keep fun q hq=>(f2.eq q (Nat.lt_of_lt_of_le (hok2.lt q hq) f1.len) (hpv q hq)).trans (f1.eq q (hok2.lt q hq) (by simp))⟩ (fun q hq=>.inl (by rw[← he];exact hq)) Abx
   refine hR n hmm hnz hin σ3 _ _ hr.1 ?_ hr.2
   rw[List.map_set]
   exact AtK.set (key:=GN.id) (x:={n with ln:=true,labels:=Cc Op.bytesLess id nm n.labels}) Ak hq.iN (by rw[show GN.id _=z from hnz];exact q1) ⟨n,hmm,rfl⟩
 ·have hbq:∀nn,∃j:Nat,Ag (Ac tab) 144 [.sl nn (vs .str n.labels),.str nm] (· =.BG [.int .i64 j,.bool false]):=fun nn=>by
   obtain⟨_,⟨j,b,rfl,r1,r2⟩,hd⟩:=hbs nn
   cases b
   ·exact⟨j,hd⟩
   ·obtain⟨w,hw,rfl⟩:=r2.1 rfl
    exact absurd hw hin
  rcases hok1 with⟨hb,hl0,rfl|⟨ol,gl,el,rfl,hol⟩⟩|⟨hb,ol,gl,rfl,hol⟩
  ·obtain⟨j,hbj⟩:=hbq false
   rw[hl0]at hbj
   refine Ah rfl rfl ?_
   (conv=>whnf);repeat' (first|(refine Dh fun σ1 f1 h1 l1=>?_;have hE1:=h.P8 f1;have hd1:=hE1.box;have ho1:=f1.get ho (by simp);conv=>whnf)|(apply Ae (hE1.Ux 999999 DY);conv=>whnf)|((first|refine Aa hbt ?_|refine Aa hbj ?_);rintro _ rfl;conv=>whnf)|(refine Fp ?_;conv=>whnf)|(refine Kz ?_;conv=>whnf)|(rw [h1];conv=>whnf)|(rw [hd1];conv=>whnf)|(rw [ho1];conv=>whnf)|(refine Au hnt ?_;conv=>whnf)|(refine Au NM ?_;conv=>whnf)|refine kA ?_;conv=>whnf|(apply Br.mk<;>intro hc<;>first|exact hc.elim|conv=>whnf)|refine kB ?_)
   all_goals first|exact hP ⟨n,hmm,hnz,hin⟩ _ _ f1
  ·obtain⟨j,hbj⟩:=hbq false
   rw[hl0]at hbj
   refine Ah rfl rfl ?_
   (conv=>whnf);repeat' (first|(refine Dh fun σ1 f1 h1 l1=>?_;have hE1:=h.P8 f1;have hd1:=hE1.box;have ho1:=f1.get ho (by simp);have hl1:=f1.get hol (by simp);conv=>whnf)|(apply Ae (hE1.Ux 999999 DY);conv=>whnf)|((first|refine Aa hbt ?_|refine Aa hbj ?_);rintro _ rfl;conv=>whnf)|(refine Fp ?_;conv=>whnf)|(refine Kz ?_;conv=>whnf)|(rw [h1];conv=>whnf)|(rw [hd1];conv=>whnf)|(rw [ho1];conv=>whnf)|(rw [hl1];conv=>whnf)|(refine Au hnt ?_;conv=>whnf)|(refine Au NM ?_;conv=>whnf)|refine kA ?_;conv=>whnf|(apply Br.mk<;>intro hc<;>first|exact hc.elim|conv=>whnf)|refine kB ?_)
   all_goals first|exact hP ⟨n,hmm,hnz,hin⟩ _ _ f1
  ·obtain⟨j,hbj⟩:=hbq true
   refine Ah rfl rfl ?_
   (conv=>whnf);repeat' (first|(refine Dh fun σ1 f1 h1 l1=>?_;have hE1:=h.P8 f1;have hd1:=hE1.box;have ho1:=f1.get ho (by simp);have hl1:=f1.get hol (by simp);conv=>whnf)|(apply Ae (hE1.Ux 999999 DY);conv=>whnf)|((first|refine Aa hbt ?_|refine Aa hbj ?_);rintro _ rfl;conv=>whnf)|(refine Fp ?_;conv=>whnf)|(refine Kz ?_;conv=>whnf)|(rw [h1];conv=>whnf)|(rw [hd1];conv=>whnf)|(rw [ho1];conv=>whnf)|(rw [hl1];conv=>whnf)|(refine Au hnt ?_;conv=>whnf)|(refine Au NM ?_;conv=>whnf)|refine kA ?_;conv=>whnf|(apply Br.mk<;>intro hc<;>first|exact hc.elim|conv=>whnf)|refine kB ?_)
   all_goals first|exact hP ⟨n,hmm,hnz,hin⟩ _ _ f1
set_option maxHeartbeats 2000000 in
theorem Anx {z fr to:Int} {nm:List UInt8} {v:GV} (h:Ed σ d gd vN vE nb eb N E x y) (hq:Ask N E x y) (hz:1≤z∧z≤1000000) (hv:v.ok) (hf:∃n∈N,n.n.id=z)
 (hP:(∃ n∈N.map EN.n,n.id=z∧¬isNull v∧(¬ ∃p∈n.props,GP.key p=nm)∧¬n.props.length<16)→∀σ' c',Fr σ σ' []→K (.Ei (.iface 118 (.int .i64 20))) ⟨σ',c'⟩)
 (hA:∀n∈N.map EN.n,n.id=z→isNull v→∀σ' c' N',Ed σ' d gd vN vE nb eb N' E x y→N'.map EN.n=A8 BX GN.id {n with props:=Cc Op.bytesLess GP.key nm n.props} (N.map EN.n)→Fr σ σ' (d::(vN.obj++(vE.obj++Cj N E)))→K (.ok (.BG [])) ⟨σ',c'⟩)
 (hB:∀n∈N.map EN.n,n.id=z→¬isNull v→((∃ p∈n.props,GP.key p=nm)∨n.props.length<16)→∀σ' c' N',Ed σ' d gd vN vE nb eb N' E x y→N'.map EN.n=A8 BX GN.id {n with pn:=true,props:=A8 Op.bytesLess GP.key ⟨nm,v⟩ n.props} (N.map EN.n)→Fr σ σ' (d::(vN.obj++(vE.obj++Cj N E)))→K (.ok (.BG [])) ⟨σ',c'⟩):
 Am (Ac tab) 85 [.ref d gd 0 0,(GC.mk 5 z fr to nm v).av] ⟨σ,ct⟩ K:=by
 have DY:=hq.deep
 have hlN:=hq.lN
 obtain⟨rfl,o,g,cn,i,hi,rfl,ho,hcn,hid,q1,hbt⟩:=h.at hq hf
 have hmem:N[i]∈N:=List.getElem_mem hi
 have hok:=h.hN _ hmem
 obtain⟨hip,AcS⟩:=hq.iP _ hmem
 have hap:=h.Jy hi
 have Abx:=h.ndN hi
 show Am (Ac tab) _ [.ref d gd 0 0,.agg [.int .i64 5,.int .i64 z,.int .i64 fr,.int .i64 to,.str nm,.int .i64 v.k,.int .i64 v.n,.int .i64 v.d,.str v.s,.sl v.nn v.l]] _ _
 obtain⟨e,he⟩:∃e,e=N[i]:=⟨_,rfl⟩
 rw[← he]at hok hip AcS Abx
 have hnt:nth (vs EN.av N) (Int.toNat (i:Int))=some e.av:=by rw[he];exact nV hi
 have NM:nth (vs EN.av N) i=some e.av:=by rw[he];exact nV hi
 obtain⟨n,lv,pv⟩:=e
 have hok1:Hd .str 1 σ lv n.ln n.labels true:=hok.1
 have hok2:Hd GP.av 6 σ pv n.pn n.props true:=hok.2
 replace AcS:n.props.length≤16:=AcS
 replace hip:Inc Op.bytesLess GP.key n.props:=hip
 have hmm:n∈N.map EN.n:=by rw[show n=(N[i]).n by rw[← he]];exact List.mem_map_of_mem hmem
 have hnz:n.id=z:=by rw[show n=(N[i]).n by rw[← he]];exact hid
 have OX:(N[i]).objs=lv.obj++pv.obj:=by rw[← he];rfl
 have hoo:o∉pv.obj:=fun hm=>((hap o (.inr (by rw[OX];simp[hm]))).2.2.2.2 (by rw[OX];simp[hm])).1 (by simp[AV.obj])
 have hlp:∀q∈lv.obj,q∉pv.obj:=fun q hq hm=>(List.nodup_append.1 Abx).2.2 q hq q hm rfl
 have fin:∀σ1 σ2 σ3 pv' pb L c',Fr σ σ1 []→Fr σ1 σ2 pv.obj→Fr σ2 σ3 [o]→nth σ3 o=some (.arr g 3 true c' (vs EN.av (N.set i ⟨{n with pn:=pb,props:=L},lv,pv'⟩)))→
  Hd GP.av 6 σ2 pv' pb L true→(∀ q∈pv'.obj,q∈pv.obj∨σ1.length≤q)→(c'=true→cn=true∧pv'.closed=true)→Ed σ3 d gd (.own o g 0 N.length) vE true eb (N.set i ⟨{n with pn:=pb,props:=L},lv,pv'⟩) E x y∧Fr σ σ3 (d::((AV.own o g 0 N.length).obj++(vE.obj++Cj N E))):=by
  intro σ1 σ2 σ3 pv' pb L c' f1 f2 f3 h3 h2 hob hcc
  refine h.ArF hi f1 (f2.mono (by rw[OX];simp +contextual)) f3 h3 (fun hc e he'=>?_) ⟨hok1.keep fun q hq=>?_,h2⟩ (fun q hq=>?_) ?_
  ·replace hc:=hcc hc
   rcases Lj he' with rfl|⟨j,hj,_,rfl⟩
   ·have:=hcn hc.1 _ hmem
    rw[← he]at this
    simp only[EN.av,AV.closed,D9,Bool.and_eq_true,Bool.and_true]at this ⊢
    exact⟨trivial,this.2.1,hc.2⟩
   ·exact hcn hc.1 _ (List.getElem_mem hj)
  ·have:=hok1.lt q hq
   exact(f2.eq q (Nat.lt_of_lt_of_le this f1.len) (hlp q hq)).trans (f1.eq q this (by simp))
  ·rw[OX]
   rcases List.mem_append.1 hq with hq|hq
   ·exact .inl (List.mem_append_left _ hq)
   ·exact(hob q hq).imp (fun hm=>List.mem_append_right _ hm) id
  ·refine List.nodup_append.2 ⟨hok1.nodup,h2.nodup,fun a ha b hb e=>?_⟩
   subst e
   rcases hob a hb with hm|hm
   ·exact hlp a ha hm
   ·have:=hok1.lt a ha;have:=f1.len;omega
 have mp:∀(e':EN),e'.n.id=z→(N.set i e').map EN.n=A8 BX GN.id e'.n (N.map EN.n):=fun e' hz'=>by
  rw[List.map_set]
  exact AtK.set (key:=GN.id) (x:=e'.n) Ak hq.iN (by rw[hz'];exact q1) ⟨n,hmm,by rw[hz',hnz]⟩
 have AhN:=hok2
 rcases AhN with⟨_,_,rfl|⟨op',gp,ep,rfl,_⟩⟩|⟨_,op',gp,rfl,_⟩
 all_goals
  refine Ah rfl rfl ?_
  (conv=>whnf);repeat' (first|(refine Dh fun σ1 f1 h1 l1=>?_;have hE1:=h.P8 f1;have hd1:=hE1.box;have ho1:=f1.get ho (by simp);have hp1:=hok2.keep (σ':=σ1) fun q hq=>f1.eq q (hok2.lt q hq) (by simp);conv=>whnf)|(apply Ae (hE1.Ux 999999 DY);conv=>whnf)|(refine Aa hbt ?_;rintro _ rfl;conv=>whnf)|(refine Fp ?_;conv=>whnf)|(rw [h1];conv=>whnf)|(rw [hd1];conv=>whnf)|(rw [ho1];conv=>whnf)|(refine Au hnt ?_;conv=>whnf)|(refine Au NM ?_;conv=>whnf)|(refine Aq9 hp1 hip (by omega) hv (fun hn σ2 c2 pv2 g1 f2 g3=>?_) (fun hn hx σ2 c2 pv2 g1 f2 g3=>?_) (fun hn hx hl σ2 c2 f2=>?_);rotate_left 2;(conv=>whnf);rotate_left 1;(have ho2:=f2.get ho1 hoo;have g0:=g1;rcases g0 with⟨_,_,rfl|⟨_,_,_,rfl,_⟩⟩|⟨_,_,_,rfl,_⟩<;>conv=>whnf);rotate_left 3;(have ho2:=f2.get ho1 hoo;have g0:=g1;rcases g0 with⟨gb,_⟩|⟨_,_,_,rfl,_⟩;(· cases gb);conv=>whnf))|(rw [ho2];conv=>whnf)|(refine (Eb _ _).2 ?_;conv=>whnf)|(refine F7 ho2 fun σ3 f3 h3 l3=>?_;conv=>whnf)|refine kA ?_;conv=>whnf|(apply Br.mk<;>intro hc<;>first|exact hc.elim|conv=>whnf)|refine kB ?_)
  all_goals first
   |(have hr:=fin σ1 σ2 σ3 _ _ _ _ f1 f2 f3 (h3.trans (by rw[← Ua];rfl)) g1 g3 (fun h=>by first|exact⟨h,rfl⟩|exact⟨rfl,rfl⟩|cases h)
     first|exact hA n hmm hnz hn σ3 _ _ hr.1 (mp _ hnz) hr.2|exact hB n hmm hnz hn hx σ3 _ _ hr.1 (mp _ hnz) hr.2)
   |exact hP ⟨n,hmm,hnz,hn,hx,hl⟩ _ _ (f1.trans f2)
end
section
variable {σ σ1 σ2 σ3:List Obj} {d gd:Nat} {vN vE:AV} {nb eb:Bool} {N:List EN} {E:List EE} {x y:Int} {ct:Nat} {K:Bf→Aq→Prop}
theorem Ad4 {nb eb:Bool} {z:Int} (hq:Ask N E x y) (hf:∃n∈E,n.e.id=z):∃i,AtK BX GE.id z (E.map EE.e) i∧Ag (Ac tab) 148 [.DR (LP nb eb N E x y).av.cells,.int .i64 z] (· =.BG [.int .i64 (i:Nat),.bool true]):=by
 obtain⟨_,⟨i,b,rfl,h1,h2⟩,hd⟩:=(AhH (g:=LP nb eb N E x y) (x:=z) (by have:=hq.lE;simp[LP];omega) hq.iE).IJ
 obtain⟨n,hn,e⟩:=hf
 rw[h2.2 ⟨n.e,by simp only[LP,List.mem_map];exact⟨n,hn,rfl⟩,e⟩]at hd
 exact⟨i,h1,hd⟩
theorem Ahq {nb eb:Bool} {z:Int} (hq:Ask N E x y) (hf:¬∃n∈E,n.e.id=z):∃i,AtK BX GE.id z (E.map EE.e) i∧Ag (Ac tab) 148 [.DR (LP nb eb N E x y).av.cells,.int .i64 z] (· =.BG [.int .i64 (i:Nat),.bool false]):=by
 obtain⟨_,⟨i,b,rfl,h1,h2⟩,hd⟩:=(AhH (g:=LP nb eb N E x y) (x:=z) (by have:=hq.lE;simp[LP];omega) hq.iE).IJ
 cases b
 ·exact⟨i,h1,hd⟩
 ·obtain⟨n,hn,e⟩:=h2.1 rfl
  simp only[LP,List.mem_map]at hn
  obtain⟨m,hm,rfl⟩:=hn
  exact absurd ⟨m,hm,e⟩ hf
theorem Ed.atE (h:Ed σ d gd vN vE nb eb N E x y) (hq:Ask N E x y) {z:Int} (hf:∃n∈E,n.e.id=z):eb=true∧∃o g c i,∃hi:i<E.length,vE=.own o g 0 E.length∧nth σ o=some (.arr g 5 true c (vs EE.av E))∧(c=true→∀e∈E,e.av.closed=true)∧(E[i]).e.id=z∧AtK BX GE.id z (E.map EE.e) i∧
 Ag (Ac tab) 148 [.DR (LP nb eb N E x y).av.cells,.int .i64 z] (· =.BG [.int .i64 (i:Nat),.bool true]):=by
 obtain⟨i,q1,hbt⟩:=Ad4 (nb:=nb) (eb:=eb) hq hf
 obtain⟨n,hn,e⟩:=hf
 obtain⟨hil,hid,_⟩:=q1.found Ak hq.iE ⟨n.e,List.mem_map_of_mem hn,e⟩
 rw[List.length_map]at hil
 obtain⟨cn,hn1,hn2⟩:=h.he
 rcases hn1 with⟨_,rfl,_⟩|⟨rfl,o,g,rfl,ho⟩
 ·simp at hil
 ·exact⟨rfl,o,g,cn,i,hil,rfl,ho,hn2,by simpa using hid,q1,hbt⟩
set_option maxHeartbeats 2000000 in
theorem Akb {op z fr to:Int} {nm:List UInt8} {v:GV} (h:Ed σ d gd vN vE nb eb N E x y) (hq:Ask N E x y) (hop:op=7∨op=8) (hf:¬∃n∈E,n.e.id=z)
 (hP:∀σ' c',Fr σ σ' []→K (.Ei (.iface 118 (.int .i64 11))) ⟨σ',c'⟩):
 Am (Ac tab) 86 [.ref d gd 0 0,(GC.mk op z fr to nm v).av] ⟨σ,ct⟩ K:=by
 have DY:=hq.deep
 obtain⟨i,q1,hbt⟩:=Ahq (nb:=nb) (eb:=eb) hq hf
 show Am (Ac tab) _ [.ref d gd 0 0,.agg [.int .i64 op,.int .i64 z,.int .i64 fr,.int .i64 to,.str nm,.int .i64 v.k,.int .i64 v.n,.int .i64 v.d,.str v.s,.sl v.nn v.l]] _ _
 rcases hop with rfl|rfl
 all_goals
  refine Ah rfl rfl ?_
  (conv=>whnf);repeat' (first|(refine Dh fun σ1 f1 h1 l1=>?_;have hE1:=h.P8 f1;conv=>whnf)|(apply Ae (hE1.Ux 999999 DY);conv=>whnf)|(refine Aa hbt ?_;rintro _ rfl;conv=>whnf)|(refine Kz ?_;conv=>whnf)|(rw [h1];conv=>whnf)|refine kA ?_;conv=>whnf|(apply Br.mk<;>intro hc<;>first|exact hc.elim|conv=>whnf)|refine kB ?_)
  all_goals first|exact hP _ _ f1
set_option maxHeartbeats 2000000 in
theorem AnB {z fr to:Int} {nm:List UInt8} {v:GV} (h:Ed σ d gd vN vE nb eb N E x y) (hq:Ask N E x y) (hf:∃n∈E,n.e.id=z)
 (hR:∀σ' c' vE' E',Ed σ' d gd vN vE' nb eb N E' x y→E'.map EE.e=Cc BX GE.id z (E.map EE.e)→Fr σ σ' (d::(vN.obj++(vE.obj++Cj N E)))→K (.ok (.BG [])) ⟨σ',c'⟩):
 Am (Ac tab) 86 [.ref d gd 0 0,(GC.mk 7 z fr to nm v).av] ⟨σ,ct⟩ K:=by
 have DY:=hq.deep
 have hlE:=hq.lE
 obtain⟨rfl,o,g,cn,i,hi,rfl,ho,hcn,hid,q1,hbt⟩:=h.atE hq hf
 show Am (Ac tab) _ [.ref d gd 0 0,.agg [.int .i64 7,.int .i64 z,.int .i64 fr,.int .i64 to,.str nm,.int .i64 v.k,.int .i64 v.n,.int .i64 v.d,.str v.s,.sl v.nn v.l]] _ _
 have hdl:=Dc h.box
 have hdo:d∉[o]:=by have:=h.nd;simp[AV.obj]at this;simpa using this.1.2.1
 have hod:o∉[d]:=fun hm=>hdo (by simp at hm ⊢;exact hm.symm)
 refine Ah rfl rfl ?_
 (conv=>whnf);repeat' (first|(refine Dh fun σ1 f1 h1 l1=>?_;have hE1:=h.P8 f1;have hd1:=hE1.box;have ho1:=f1.get ho (by simp);conv=>whnf)|(apply Ae (hE1.Ux 999999 DY);conv=>whnf)|(refine Aa hbt ?_;rintro _ rfl;conv=>whnf)|(refine Fp ?_;conv=>whnf)|(rw [h1];conv=>whnf)|(rw [hd1];conv=>whnf)|(refine WM (fv:=EE.av) rfl rfl hi rfl ho1 fun σ2 f2 h2=>?_;have hd2:=f2.get hd1 hdo;conv=>whnf)|(rw [hd2];conv=>whnf)|(refine F7 hd2 fun σ3 f3 h3 l3=>?_;conv=>whnf)|refine kA ?_;conv=>whnf|(apply Br.mk<;>intro hc<;>first|exact hc.elim|conv=>whnf)|refine kB ?_)
 have hF:Fr σ σ3 [d,o]:=((f1.mono (by simp)).trans (f2.mono (by simp))).trans (f3.mono (by simp))
 have h23:=f3.get h2 hod
 have hl4:(E.take i++E.drop (i+1)).length=i+(E.length-(i+1)):=by simp only[List.length_append,List.length_take,List.length_drop];omega
 have hed:=h.Aot (E':=E.take i++E.drop (i+1)) (y':=y) hF (by simp[AV.obj]) h3 (.inr ⟨rfl,_,_,by rw[hl4],h23⟩) hcn (fun e he=>by
  rcases List.mem_append.1 he with he|he
  ·exact .inl (List.mem_of_mem_take he)
  ·exact .inl (List.mem_of_mem_drop he)) (by
  rw[List.flatMap_append,NR hi]
  exact(List.Sublist.refl _).append (List.sublist_append_right _ _)) (fun o ho=>.inl ho) (by simp)
 refine hR _ _ _ _ hed ?_ (hF.mono (by simp[AV.obj]))
 have:=q1.del (key:=GE.id) Ak hq.iE ⟨(E[i]).e,List.mem_map_of_mem (List.getElem_mem hi),hid⟩
 rw[← this]
 simp only[List.map_append,List.map_take,List.map_drop]
end
end AI
end Go.Proofs.YthnehejdkajjhaaGreatDoor
