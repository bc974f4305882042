/- What becomes of an edited graph when its store changes. An editor's change of a node. An editor's change of a node: labels. -/
import Derived.Test.YtchcadfjbkkgmaaGreatDoorCMal
import Derived.Test.YtchcadfjbkkgmaaGreatDoorCMaj
set_option linter.unusedVariables false
set_option maxRecDepth 4000
namespace Go.Proofs.YtchcadfjbkkgmaaGreatDoor
namespace AI
theorem Hd.diff {α:Type} {f:α→AV} {es:Nat} {σ:List Obj} {v:AV} {b c:Bool} {l:List α} (h:Hd f es σ v b l c) {o g es':Nat} {c':Bool} {xs:List AV} (ho:nth σ o=some (.arr g es' true c' xs)) (hne:es'≠es):o∉v.obj:=by
 intro hm
 obtain⟨g1,e1,nn,c1,x1,h1,h2⟩:=h.obj hm
 rw[ho]at h1
 simp only[Option.some.injEq,Obj.arr.injEq]at h1
 obtain⟨_,rfl,rfl,_,_⟩:=h1
 exact hne (h2 rfl)
theorem Hd.nodup {α:Type} {f:α→AV} {es:Nat} {σ:List Obj} {v:AV} {b c:Bool} {l:List α} (h:Hd f es σ v b l c):v.obj.Nodup:=by
 rcases h with⟨_,_,rfl|⟨o',g,es',rfl,h⟩⟩|⟨_,o',g,rfl,h⟩<;>simp[AV.obj]
theorem LH {A B B' C:List Nat} {n:Nat} (h:(A++B++C).Nodup) (hb:B'.Nodup) (hB:∀o∈B',o∈B∨n≤o) (hlt:∀o,o∈A∨o∈C→o<n):(A++B'++C).Nodup:=by
 rw[List.nodup_append,List.nodup_append]at h ⊢
 obtain⟨⟨h1,h2,h3⟩,h4,h5⟩:=h
 refine⟨⟨h1,hb,fun a ha b hb'=>?_⟩,h4,fun a ha b hb'=>?_⟩
 ·rcases hB b hb' with h|h
  ·exact h3 a ha b h
  ·have:=hlt a (.inl ha);omega
 ·rcases List.mem_append.1 ha with ha|ha
  ·exact h5 a (List.mem_append_left _ ha) b hb'
  ·rcases hB a ha with h|h
   ·exact h5 a (List.mem_append_right _ h) b hb'
   ·have:=hlt b (.inr hb');omega
theorem EN.Ok.lt {σ:List Obj} {e:EN} (h:e.Ok σ):∀o∈e.objs,o<σ.length:=fun o ho=>by
 rcases List.mem_append.1 ho with ho|ho
 ·exact h.1.lt o ho
 ·exact h.2.lt o ho
theorem EE.Ok.lt {σ:List Obj} {e:EE} (h:e.Ok σ):∀o∈e.objs,o<σ.length:=fun o ho=>Hd.lt h o ho
theorem EN.Ok.keep {σ σ':List Obj} {e:EN} (h:e.Ok σ) (hk:∀o∈e.objs,nth σ' o=nth σ o):e.Ok σ':=
 ⟨h.1.keep fun o ho=>hk o (List.mem_append_left _ ho),h.2.keep fun o ho=>hk o (List.mem_append_right _ ho)⟩
theorem EE.Ok.keep {σ σ':List Obj} {e:EE} (h:e.Ok σ) (hk:∀o∈e.objs,nth σ' o=nth σ o):e.Ok σ':=Hd.keep h hk
section
variable {σ σ':List Obj} {d gd:Nat} {vN vE:AV} {nb eb:Bool} {N:List EN} {E:List EE} {x y:Int}
theorem Ld {α:Type} {f:α→List Nat} {l:List α} {i:Nat} (hi:i<l.length):l.flatMap f=(l.take i).flatMap f++(f l[i]++(l.drop (i+1)).flatMap f):=by
 have e:l.take i++l[i]::l.drop (i+1)=l:=by rw[← List.drop_eq_getElem_cons hi,List.take_append_drop]
 rw[← List.flatMap_cons,←List.flatMap_append,e]
theorem LG {N:List EN} {E:List EE} {i:Nat} (hi:i<N.length):BO N E=(N.take i).flatMap EN.objs++(N[i]).objs++((N.drop (i+1)).flatMap EN.objs++E.flatMap EE.objs):=by
 rw[BO,Ld hi]
 simp only[List.append_assoc]
theorem NH {N:List EN} {E:List EE} {i:Nat} (hi:i<E.length):BO N E=(N.flatMap EN.objs++(E.take i).flatMap EE.objs)++(E[i]).objs++(E.drop (i+1)).flatMap EE.objs:=by
 rw[BO,Ld hi]
 simp only[List.append_assoc]
theorem Jc {N:List EN} {E:List EE} {e:EN} (he:e∈N) {o:Nat} (ho:o∈e.objs):o∈BO N E:=List.mem_append_left _ (List.mem_flatMap.2 ⟨e,he,ho⟩)
theorem KE {N:List EN} {E:List EE} {e:EE} (he:e∈E) {o:Nat} (ho:o∈e.objs):o∈BO N E:=List.mem_append_right _ (List.mem_flatMap.2 ⟨e,he,ho⟩)
theorem Ed.fr (h:Ed σ d gd vN vE nb eb N E x y) {F:List Nat} (hF:Fr σ σ' F) (ho:∀o∈d::(vN.obj++(vE.obj++BO N E)),o∉F):Ed σ' d gd vN vE nb eb N E x y:=by
 obtain⟨cn,hn1,hn2⟩:=h.hn
 obtain⟨ce,he1,he2⟩:=h.he
 exact⟨hF.get h.box (ho _ (by simp)),⟨cn,hn1.keep fun o hm=>hF.eq o (hn1.lt o hm) (ho o (by simp[hm])),hn2⟩,⟨ce,he1.keep fun o hm=>hF.eq o (he1.lt o hm) (ho o (by simp[hm])),he2⟩,
  fun e he=>(h.hN e he).keep fun o hm=>hF.eq o ((h.hN e he).lt o hm) (ho o (by simp[Jc (E:=E) he hm])),
  fun e he=>(h.hE e he).keep fun o hm=>hF.eq o ((h.hE e he).lt o hm) (ho o (by simp[KE (N:=N) he hm])),h.nd,h.oN,h.oE⟩
theorem Ed.Ol (h:Ed σ d gd vN vE nb eb N E x y) (hF:Fr σ σ' []):Ed σ' d gd vN vE nb eb N E x y:=h.fr hF (by simp)
theorem Ed.OW (h:Ed σ d gd vN vE nb eb N E x y):∀o∈d::(vN.obj++(vE.obj++BO N E)),o<σ.length:=by
 intro o ho
 obtain⟨cn,hn1,_⟩:=h.hn
 obtain⟨ce,he1,_⟩:=h.he
 rcases List.mem_cons.1 ho with rfl|ho
 ·exact BH h.box
 rcases List.mem_append.1 ho with ho|ho
 ·exact hn1.lt o ho
 rcases List.mem_append.1 ho with ho|ho
 ·exact he1.lt o ho
 rcases List.mem_append.1 ho with ho|ho<;>obtain⟨e,he,hm⟩:=List.mem_flatMap.1 ho
 ·exact(h.hN e he).lt o hm
 ·exact(h.hE e he).lt o hm
theorem Ed.nodes (h:Ed σ d gd vN vE nb eb N E x y) {F:List Nat} (hF:Fr σ σ' F) (hFE:∀o∈F,o∉vE.obj∧o∉E.flatMap EE.objs) {Xd:AV} {nb':Bool} {N':List EN} {x':Int} {c':Bool}
 (hb:nth σ' d=some (.arr gd 4 true false [.agg [Xd,vE,.int .i64 x',.int .i64 y]]))
 (hn:Hd EN.av 3 σ' Xd nb' N' c') (hc:c'=true→∀e∈N',e.av.closed=true) (hm:∀e∈N',e.Ok σ') (hnd:(d::(Xd.obj++(vE.obj++BO N' E))).Nodup) (hv:Xd≠.sl false []):Ed σ' d gd Xd vE nb' eb N' E x' y:=by
 obtain⟨ce,he1,he2⟩:=h.he
 exact⟨hb,⟨c',hn,hc⟩,⟨ce,he1.keep fun o hm=>hF.eq o (he1.lt o hm) (fun hf=>(hFE o hf).1 hm),he2⟩,hm,
  fun e he=>(h.hE e he).keep fun o hm=>hF.eq o ((h.hE e he).lt o hm) (fun hf=>(hFE o hf).2 (List.mem_flatMap.2 ⟨e,he,hm⟩)),hnd,hv,h.oE⟩
theorem Ed.edges (h:Ed σ d gd vN vE nb eb N E x y) {F:List Nat} (hF:Fr σ σ' F) (hFE:∀o∈F,o∉vN.obj∧o∉N.flatMap EN.objs) {vE':AV} {eb':Bool} {E':List EE} {y':Int} {c':Bool}
 (hb:nth σ' d=some (.arr gd 4 true false [.agg [vN,vE',.int .i64 x,.int .i64 y']]))
 (hn:Hd EE.av 5 σ' vE' eb' E' c') (hc:c'=true→∀e∈E',e.av.closed=true) (hm:∀e∈E',e.Ok σ') (hnd:(d::(vN.obj++(vE'.obj++BO N E'))).Nodup) (hv:vE'≠.sl false []):Ed σ' d gd vN vE' nb eb' N E' x y':=by
 obtain⟨cn,he1,he2⟩:=h.hn
 exact⟨hb,⟨cn,he1.keep fun o hm=>hF.eq o (he1.lt o hm) (fun hf=>(hFE o hf).1 hm),he2⟩,⟨c',hn,hc⟩,
  fun e he=>(h.hN e he).keep fun o hm=>hF.eq o ((h.hN e he).lt o hm) (fun hf=>(hFE o hf).2 (List.mem_flatMap.2 ⟨e,he,hm⟩)),hm,hnd,h.oN,hv⟩
theorem Ed.Iw (h:Ed σ d gd vN vE nb eb N E x y) {i:Nat} (hi:i<N.length):∀o,o∈vN.obj∨o∈(N[i]).objs→o≠d∧o∉vE.obj∧o∉E.flatMap EE.objs∧(o∈vN.obj→o∉BO N E)∧(o∈(N[i]).objs→o∉vN.obj∧∀j (hj:j<N.length),j≠i→o∉(N[j]).objs):=by
 have hnd:=h.nd
 have hsp:=LG (E:=E) hi
 rw[List.nodup_cons,List.nodup_append,List.nodup_append]at hnd
 obtain⟨h1,h2,⟨h3,h4,h5⟩,h6⟩:=hnd
 have hmem:∀o∈(N[i]).objs,o∈BO N E:=fun o ho=>Jc (List.getElem_mem hi) ho
 intro o ho
 refine⟨?_,?_,?_,?_,?_⟩
 ·rintro rfl
  rcases ho with ho|ho
  ·exact h1 (by simp[ho])
  ·exact h1 (by simp[hmem _ ho])
 ·intro hm
  rcases ho with ho|ho
  ·exact h6 o ho o (by simp[hm]) rfl
  ·exact h5 o hm o (hmem _ ho) rfl
 ·intro hm
  rcases ho with ho|ho
  ·exact h6 o ho o (by simp[BO];exact .inr (.inr (by simpa using hm))) rfl
  ·rw[hsp,List.nodup_append]at h4
   exact h4.2.2 o (List.mem_append_right _ ho) o (List.mem_append_right _ hm) rfl
 ·exact fun hv hm=>h6 o hv o (by simp[hm]) rfl
 ·intro hoi
  refine⟨fun hv=>h6 o hv o (by simp[hmem _ hoi]) rfl,fun j hj hji hm=>?_⟩
  rw[hsp,List.nodup_append,List.nodup_append]at h4
  obtain⟨⟨_,_,k1⟩,_,k2⟩:=h4
  rcases Nat.lt_or_ge j i with hlt|hge
  ·exact k1 o (List.mem_flatMap.2 ⟨N[j],List.mem_take_iff_getElem.2 ⟨j,by omega,rfl⟩,hm⟩) o hoi rfl
  ·exact k2 o (List.mem_append_right _ hoi) o (List.mem_append_left _ (List.mem_flatMap.2 ⟨N[j],List.mem_drop_iff_getElem.2 ⟨j-(i+1),by omega,by congr 1;omega⟩,hm⟩)) rfl
theorem Ed.AaC (h:Ed σ d gd vN vE nb eb N E x y) {i:Nat} (hi:i<E.length):∀o,o∈vE.obj∨o∈(E[i]).objs→o≠d∧o∉vN.obj∧o∉N.flatMap EN.objs∧(o∈vE.obj→o∉BO N E)∧(o∈(E[i]).objs→o∉vE.obj∧∀j (hj:j<E.length),j≠i→o∉(E[j]).objs):=by
 have hnd:=h.nd
 have hsp:=NH (N:=N) hi
 rw[List.nodup_cons,List.nodup_append,List.nodup_append]at hnd
 obtain⟨h1,h2,⟨h3,h4,h5⟩,h6⟩:=hnd
 have hmem:∀o∈(E[i]).objs,o∈BO N E:=fun o ho=>KE (List.getElem_mem hi) ho
 intro o ho
 refine⟨?_,?_,?_,?_,?_⟩
 ·rintro rfl
  rcases ho with ho|ho
  ·exact h1 (by simp[ho])
  ·exact h1 (by simp[hmem _ ho])
 ·intro hm
  rcases ho with ho|ho
  ·exact h6 o hm o (by simp[ho]) rfl
  ·exact h6 o hm o (by simp[hmem _ ho]) rfl
 ·intro hm
  rcases ho with ho|ho
  ·exact h5 o ho o (List.mem_append_left _ hm) rfl
  ·rw[hsp,List.nodup_append,List.nodup_append]at h4
   exact h4.1.2.2 o (List.mem_append_left _ hm) o ho rfl
 ·exact fun hv hm=>h5 o hv o hm rfl
 ·intro hoi
  refine⟨fun hv=>h5 o hv o (hmem _ hoi) rfl,fun j hj hji hm=>?_⟩
  rw[hsp,List.nodup_append,List.nodup_append]at h4
  obtain⟨⟨_,_,k1⟩,_,k2⟩:=h4
  rcases Nat.lt_or_ge j i with hlt|hge
  ·exact k1 o (List.mem_append_right _ (List.mem_flatMap.2 ⟨E[j],List.mem_take_iff_getElem.2 ⟨j,by omega,rfl⟩,hm⟩)) o hoi rfl
  ·exact k2 o (List.mem_append_right _ hoi) o (List.mem_flatMap.2 ⟨E[j],List.mem_drop_iff_getElem.2 ⟨j-(i+1),by omega,by congr 1;omega⟩,hm⟩) rfl
theorem JM {α:Type} {l:List α} {i:Nat} {a e:α} (he:e∈l.set i a):e=a∨∃j,∃hj:j<l.length,j≠i∧e=l[j]:=by
 obtain⟨j,hj,rfl⟩:=List.getElem_of_mem he
 rw[List.length_set]at hj
 by_cases h:j=i
 ·subst h;exact .inl (by simp)
 ·exact .inr ⟨j,hj,h,by rw[List.getElem_set_ne (Ne.symm h)]⟩
theorem ZJ {α:Type} {f:α→List Nat} {l:List α} {i:Nat} {a:α} (hi:i<l.length):(l.set i a).flatMap f=(l.take i).flatMap f++(f a++(l.drop (i+1)).flatMap f):=by
 rw[List.set_eq_take_append_cons_drop,if_pos hi,List.flatMap_append,List.flatMap_cons]
theorem Ed.setNode {on gn:Nat} (h:Ed σ d gd (.own on gn 0 N.length) vE true eb N E x y) {i:Nat} (hi:i<N.length) {e':EN} {c':Bool} (hF:Fr σ σ' (on::(N[i]).objs))
 (hon:nth σ' on=some (.arr gn 3 true c' (vs EN.av (N.set i e')))) (hc:c'=true→∀e∈N.set i e',e.av.closed=true) (hok:e'.Ok σ') (hob:∀o∈e'.objs,o∈(N[i]).objs∨σ.length≤o) (hnd:e'.objs.Nodup):
 Ed σ' d gd (.own on gn 0 N.length) vE true eb (N.set i e') E x y:=by
 have hap:=h.Iw hi
 have hin:∀o∈on::(N[i]).objs,o∈(AV.own on gn 0 N.length).obj∨o∈(N[i]).objs:=fun o ho=>by
  rcases List.mem_cons.1 ho with rfl|ho
  ·exact .inl (by simp[AV.obj])
  ·exact .inr ho
 refine h.nodes hF (fun o ho=>⟨(hap o (hin o ho)).2.1,(hap o (hin o ho)).2.2.1⟩) (hF.get h.box fun hm=>(hap d (hin d hm)).1 rfl) (.inr ⟨rfl,on,gn,by rw[List.length_set],hon⟩) hc (fun e he=>?_) ?_ (by simp)
 ·rcases JM he with rfl|⟨j,hj,hji,rfl⟩
  ·exact hok
  ·refine(h.hN _ (List.getElem_mem hj)).keep fun o hm=>hF.eq o ((h.hN _ (List.getElem_mem hj)).lt o hm) fun hf=>?_
   rcases List.mem_cons.1 hf with rfl|hf
   ·exact(hap o (.inl (by simp[AV.obj]))).2.2.2.1 (by simp[AV.obj]) (Jc (List.getElem_mem hj) hm)
   ·exact((hap o (.inr hf)).2.2.2.2 hf).2 j hj hji hm
 ·have h0:=h.nd
  have hl:=h.OW
  rw[LG hi]at h0 hl
  have e1:d::((AV.own on gn 0 N.length).obj++(vE.obj++BO (N.set i e') E))=(d::((AV.own on gn 0 N.length).obj++(vE.obj++(N.take i).flatMap EN.objs)))++e'.objs++((N.drop (i+1)).flatMap EN.objs++E.flatMap EE.objs):=by
   rw[BO,ZJ hi];simp only[List.append_assoc,List.cons_append]
  rw[e1]
  refine LH (B:=(N[i]).objs) (n:=σ.length) (by simpa only[List.append_assoc,List.cons_append]using h0) hnd hob fun o ho=>hl o ?_
  simp only[List.mem_cons,List.mem_append]at ho ⊢
  rcases ho with(h|h|h|h)|h|h<;>simp[h]
theorem Ed.Aiq {on gn:Nat} (h:Ed σ d gd vN (.own on gn 0 E.length) nb true N E x y) {i:Nat} (hi:i<E.length) {e':EE} {c':Bool} (hF:Fr σ σ' (on::(E[i]).objs))
 (hon:nth σ' on=some (.arr gn 5 true c' (vs EE.av (E.set i e')))) (hc:c'=true→∀e∈E.set i e',e.av.closed=true) (hok:e'.Ok σ') (hob:∀o∈e'.objs,o∈(E[i]).objs∨σ.length≤o) (hnd:e'.objs.Nodup):
 Ed σ' d gd vN (.own on gn 0 E.length) nb true N (E.set i e') x y:=by
 have hap:=h.AaC hi
 have hin:∀o∈on::(E[i]).objs,o∈(AV.own on gn 0 E.length).obj∨o∈(E[i]).objs:=fun o ho=>by
  rcases List.mem_cons.1 ho with rfl|ho
  ·exact .inl (by simp[AV.obj])
  ·exact .inr ho
 refine h.edges hF (fun o ho=>⟨(hap o (hin o ho)).2.1,(hap o (hin o ho)).2.2.1⟩) (hF.get h.box fun hm=>(hap d (hin d hm)).1 rfl) (.inr ⟨rfl,on,gn,by rw[List.length_set],hon⟩) hc (fun e he=>?_) ?_ (by simp)
 ·rcases JM he with rfl|⟨j,hj,hji,rfl⟩
  ·exact hok
  ·refine(h.hE _ (List.getElem_mem hj)).keep fun o hm=>hF.eq o ((h.hE _ (List.getElem_mem hj)).lt o hm) fun hf=>?_
   rcases List.mem_cons.1 hf with rfl|hf
   ·exact(hap o (.inl (by simp[AV.obj]))).2.2.2.1 (by simp[AV.obj]) (KE (List.getElem_mem hj) hm)
   ·exact((hap o (.inr hf)).2.2.2.2 hf).2 j hj hji hm
 ·have h0:=h.nd
  have hl:=h.OW
  rw[NH hi]at h0 hl
  have e1:d::(vN.obj++((AV.own on gn 0 E.length).obj++BO N (E.set i e')))=(d::(vN.obj++((AV.own on gn 0 E.length).obj++(N.flatMap EN.objs++(E.take i).flatMap EE.objs))))++e'.objs++(E.drop (i+1)).flatMap EE.objs:=by
   rw[BO,ZJ hi];simp only[List.append_assoc,List.cons_append]
  rw[e1]
  refine LH (B:=(E[i]).objs) (n:=σ.length) (by simpa only[List.append_assoc,List.cons_append]using h0) hnd hob fun o ho=>hl o ?_
  simp only[List.mem_cons,List.mem_append]at ho ⊢
  rcases ho with(h|h|h|h|h)|h<;>simp[h]
theorem Ed.Apx (h:Ed σ d gd vN vE nb eb N E x y) {F:List Nat} (hFo:∀o∈F,o=d∨o∈vN.obj):∀o∈vE.obj++BO N E,o∉F:=by
 intro o ho hf
 have hnd:=h.nd
 rw[List.nodup_cons,List.nodup_append]at hnd
 rcases hFo o hf with rfl|hv
 ·exact hnd.1 (List.mem_append_right _ ho)
 ·exact hnd.2.2.2 o hv o ho rfl
theorem Ed.Apy (h:Ed σ d gd vN vE nb eb N E x y) {F:List Nat} (hFo:∀o∈F,o=d∨o∈vE.obj):∀o∈vN.obj++BO N E,o∉F:=by
 intro o ho hf
 have hnd:=h.nd
 rw[List.nodup_cons,List.nodup_append,List.nodup_append]at hnd
 rcases hFo o hf with rfl|hv
 ·exact hnd.1 (by rcases List.mem_append.1 ho with ho|ho<;>simp[ho])
 ·rcases List.mem_append.1 ho with ho|ho
  ·exact hnd.2.2.2 o ho o (List.mem_append_left _ hv) rfl
  ·exact hnd.2.2.1.2.2 o hv o ho rfl
def eN0 (z:Int):EN:=⟨⟨z,false,[],false,[]⟩,.sl false [],.sl false []⟩
def eE0 (z fr to:Int) (ty:List UInt8):EE:=⟨⟨z,fr,to,ty,false,[]⟩,.sl false []⟩
theorem Ed.AkN (h:Ed σ d gd vN vE nb eb N E x y) {F:List Nat} (hF:Fr σ σ' F) (hFo:∀o∈F,o=d∨o∈vN.obj) {Xd:AV} {nb':Bool} {N':List EN} {x':Int} {c':Bool}
 (hb:nth σ' d=some (.arr gd 4 true false [.agg [Xd,vE,.int .i64 x',.int .i64 y]])) (hn:Hd EN.av 3 σ' Xd nb' N' c') (hc:c'=true→∀e∈N,e.av.closed=true)
 (hm:∀e∈N',e∈N∨∃z,e=eN0 z) (hs:(N'.flatMap EN.objs).Sublist (N.flatMap EN.objs)) (ho:∀o∈Xd.obj,o∈vN.obj∨σ.length≤o) (hv:Xd≠.sl false []):Ed σ' d gd Xd vE nb' eb N' E x' y:=by
 have hout:=h.Apx hFo
 refine h.nodes hF (fun o hf=>⟨fun hm=>hout o (List.mem_append_left _ hm) hf,fun hm=>hout o (List.mem_append_right _ (List.mem_append_right _ hm)) hf⟩) hb hn (fun hct e he=>?_) (fun e he=>?_) ?_ hv
 ·rcases hm e he with he|⟨z,rfl⟩
  ·exact hc hct e he
  ·rfl
 ·rcases hm e he with he|⟨z,rfl⟩
  ·exact(h.hN e he).keep fun o hm=>hF.eq o ((h.hN e he).lt o hm) (hout o (List.mem_append_right _ (Jc he hm)))
  ·exact⟨.inl ⟨rfl,rfl,.inl rfl⟩,.inl ⟨rfl,rfl,.inl rfl⟩⟩
 ·have hsub:(vE.obj++BO N' E).Sublist (vE.obj++BO N E):=(List.Sublist.refl _).append (hs.append (List.Sublist.refl _))
  have h0:(([d]++vN.obj)++(vE.obj++BO N' E)).Nodup:=h.nd.sublist ((List.Sublist.refl ([d]++vN.obj)).append hsub)
  refine LH (A:=[d]) (n:=σ.length) h0 hn.nodup ho fun o hm=>h.OW o ?_
  rcases hm with hm|hm
  ·simp at hm;simp[hm]
  ·exact List.mem_cons_of_mem _ (List.mem_append_right _ (hsub.subset hm))
theorem Ed.Aj8 (h:Ed σ d gd vN vE nb eb N E x y) {F:List Nat} (hF:Fr σ σ' F) (hFo:∀o∈F,o=d∨o∈vE.obj) {vE':AV} {eb':Bool} {E':List EE} {y':Int} {c':Bool}
 (hb:nth σ' d=some (.arr gd 4 true false [.agg [vN,vE',.int .i64 x,.int .i64 y']])) (hn:Hd EE.av 5 σ' vE' eb' E' c') (hc:c'=true→∀e∈E,e.av.closed=true)
 (hm:∀e∈E',e∈E∨∃z a b s,e=eE0 z a b s) (hs:(E'.flatMap EE.objs).Sublist (E.flatMap EE.objs)) (ho:∀o∈vE'.obj,o∈vE.obj∨σ.length≤o) (hv:vE'≠.sl false []):Ed σ' d gd vN vE' nb eb' N E' x y':=by
 have hout:=h.Apy hFo
 refine h.edges hF (fun o hf=>⟨fun hm=>hout o (List.mem_append_left _ hm) hf,fun hm=>hout o (List.mem_append_right _ (List.mem_append_left _ hm)) hf⟩) hb hn (fun hct e he=>?_) (fun e he=>?_) ?_ hv
 ·rcases hm e he with he|⟨z,a,b,s,rfl⟩
  ·exact hc hct e he
  ·rfl
 ·rcases hm e he with he|⟨z,a,b,s,rfl⟩
  ·exact(h.hE e he).keep fun o hm=>hF.eq o ((h.hE e he).lt o hm) (hout o (List.mem_append_right _ (KE he hm)))
  ·exact .inl ⟨rfl,rfl,.inl rfl⟩
 ·have hsub:(BO N E').Sublist (BO N E):=(List.Sublist.refl _).append hs
  have h0:(([d]++vN.obj)++vE.obj++BO N E').Nodup:=by
   have:=h.nd.sublist ((List.Sublist.refl (([d]++vN.obj)++vE.obj)).append hsub |>.trans (by simp[List.append_assoc]))
   exact this
  have h1:=LH (A:=[d]++vN.obj) (n:=σ.length) h0 hn.nodup ho fun o hm=>h.OW o (by
   rcases hm with hm|hm
   ·rcases List.mem_append.1 hm with hm|hm
    ·simp at hm;simp[hm]
    ·simp[hm]
   ·have:=hsub.subset hm
    simp[this])
  simpa[List.append_assoc]using h1
end
structure Ask (N:List EN) (E:List EE) (x y:Int):Prop where
 lN:N.length≤2000
 lE:E.length≤4000
 iN:Inc Cc GN.id (N.map EN.n)
 iE:Inc Cc GE.id (E.map EE.e)
 iL:∀e∈N,Inc Op.bytesLess id e.n.labels∧e.n.labels.length≤8
 iP:∀e∈N,Inc Op.bytesLess GP.key e.n.props∧e.n.props.length≤16
 iQ:∀e∈E,Inc Op.bytesLess GP.key e.e.props∧e.e.props.length≤16
 bx:-2^62≤x∧x≤2^62
 by_:-2^62≤y∧y≤2^62
section
variable {σ:List Obj} {d gd:Nat} {vN vE:AV} {nb eb:Bool} {N:List EN} {E:List EE} {x y:Int} {ct:Nat} {K:AX→Am→Prop}
theorem QF {nb eb:Bool} {z:Int} (hq:Ask N E x y) (hf:∃n∈N,n.n.id=z):∃i,AtK Cc GN.id z (N.map EN.n) i∧Af (Ad tab) 167 [.CV (J3 nb eb N E x y).av.cells,.int .i64 z] (· =.Cb [.int .i64 (i:Nat),.bool true]):=by
 obtain⟨_,⟨i,b,rfl,h1,h2⟩,hd⟩:=(AeH (g:=J3 nb eb N E x y) (x:=z) (by have:=hq.lN;simp[J3];omega) hq.iN).JF
 obtain⟨n,hn,e⟩:=hf
 rw[h2.2 ⟨n.n,by simp only[J3,List.mem_map];exact⟨n,hn,rfl⟩,e⟩]at hd
 exact⟨i,h1,hd⟩
theorem Vb {nb eb:Bool} {z:Int} (hq:Ask N E x y) (hf:¬∃n∈N,n.n.id=z):∃i,AtK Cc GN.id z (N.map EN.n) i∧Af (Ad tab) 167 [.CV (J3 nb eb N E x y).av.cells,.int .i64 z] (· =.Cb [.int .i64 (i:Nat),.bool false]):=by
 obtain⟨_,⟨i,b,rfl,h1,h2⟩,hd⟩:=(AeH (g:=J3 nb eb N E x y) (x:=z) (by have:=hq.lN;simp[J3];omega) hq.iN).JF
 cases b
 ·exact⟨i,h1,hd⟩
 ·obtain⟨n,hn,e⟩:=h2.1 rfl
  simp only[J3,List.mem_map]at hn
  obtain⟨m,hm,rfl⟩:=hn
  exact absurd ⟨m,hm,e⟩ hf
theorem Ask.deep (hq:Ask N E x y):21+N.length+E.length≤999999:=by have:=hq.lN;have:=hq.lE;omega
set_option maxHeartbeats 1000000 in
theorem AjG {z fr to:Int} {nm:List UInt8} {v:GV} (h:Ed σ d gd vN vE nb eb N E x y) (hq:Ask N E x y) (hz:1≤z∧z≤1000000)
 (hP:(∃ n∈N,n.n.id=z)→∀σ' c',Fr σ σ' []→K (.DI (.iface 199 (.int .i64 7))) ⟨σ',c'⟩)
 (hQ:(¬ ∃n∈N,n.n.id=z)→¬N.length<2000→∀σ' c',Fr σ σ' []→K (.DI (.iface 199 (.int .i64 20))) ⟨σ',c'⟩)
 (hR:(¬ ∃n∈N,n.n.id=z)→N.length<2000→∀σ' c' Xd N',Ed σ' d gd Xd vE true eb N' E (if z+1>x then z+1 else x) y→N'.map EN.n=Ba Cc GN.id ⟨z,false,[],false,[]⟩ (N.map EN.n)→Fr σ σ' (d::(vN.obj++(vE.obj++BO N E)))→K (.ok (.Cb [])) ⟨σ',c'⟩):
 A8 (Ad tab) 153 [.ref d gd 0 0,(GC.mk 1 z fr to nm v).av] ⟨σ,ct⟩ K:=by
 have DF:=hq.deep
 have hlN:=hq.lN
 have hbx:=hq.bx
 show A8 (Ad tab) _ [.ref d gd 0 0,.agg [.int .i64 1,.int .i64 z,.int .i64 fr,.int .i64 to,.str nm,.int .i64 v.k,.int .i64 v.n,.int .i64 v.d,.str v.s,.sl v.nn v.l]] _ _
 by_cases hf:∃n∈N,n.n.id=z
 ·obtain⟨i,q1,hbt⟩:=QF (nb:=nb) (eb:=eb) hq hf
  refine Ar rfl rfl ?_
  (conv=>whnf);repeat' (first|(refine CJ fun σ1 f1 h1 l1=>?_;have hE1:=h.Ol f1;conv=>whnf)|(apply AL (hE1.RF 999999 DF);conv=>whnf)|(refine Aa hbt ?_;rintro _ rfl;conv=>whnf)|(refine Ji ?_;conv=>whnf)|(rw [h1];conv=>whnf)|(refine kA ?_;conv=>whnf)|(refine Br.mk (fun hc=>?_) fun hc=>?_<;>first|exact hc.elim|conv=>whnf)|(refine kB ?_))
  all_goals first|exact hP hf _ _ f1
 ·obtain⟨i,q1,hbt⟩:=Vb (nb:=nb) (eb:=eb) hq hf
  by_cases hlen:N.length<2000
  ·obtain⟨cn,hn1,hn2⟩:=h.hn
   rcases hn1 with⟨rfl,rfl,rfl|⟨o,g,es',rfl,ho⟩⟩|⟨rfl,o,g,rfl,ho⟩
   ·exact absurd rfl h.oN
   ·obtain rfl:i=0:=by simpa using q1.le
    refine Ar rfl rfl ?_
    (conv=>whnf);repeat' (first|(refine CJ fun σ1 f1 h1 l1=>?_;have hE1:=h.Ol f1;have hd1:=hE1.box;have ho1:=f1.get ho (by simp);conv=>whnf)|(apply AL (hE1.RF 999999 DF);conv=>whnf)|(refine Aa hbt ?_;rintro _ rfl;conv=>whnf)|(refine Ez ?_;conv=>whnf)|(rw [h1];conv=>whnf)|(rw [hd1];conv=>whnf)|(refine Tt (x:=GN.av ⟨z,false,[],false,[]⟩) rfl rfl (by omega) ho1 fun σ2 f2 h2=>?_;have hd2:=f2.get hd1 (by simp);have h12:=f2.get h1 (by simp);conv=>whnf)|(rw [hd2];conv=>whnf)|(refine kA ?_;conv=>whnf)|(refine Br.mk (fun hc=>?_) fun hc=>?_<;>first|exact hc.elim|conv=>whnf)|(refine kB ?_))
    have hns:σ.length∉[d]:=by have:=BH h.box;simp;omega
    refine E8 hd2 fun σ3 f3 h3 l3=>?_
    have h13:=f3.get h12 hns
    (conv=>whnf);repeat' (first|(rw [h3];conv=>whnf)|(rw [h13];conv=>whnf)|(refine kA ?_;conv=>whnf)|(refine Br.mk (fun hc=>?_) fun hc=>?_<;>first|exact hc.elim|conv=>whnf)|(refine kB ?_))
    refine E8 h3 fun σ4 f4 h4 l4=>?_
    (conv=>whnf);repeat' (first  |(refine kA ?_;conv=>whnf)|(refine Br.mk (fun hc=>?_) fun hc=>?_<;>first|exact hc.elim|conv=>whnf)|(refine kB ?_))
    have hF:Fr σ σ4 [d]:=(((f1.mono (by simp)).trans (f2.mono (by simp))).trans f3).trans f4
    have hdl:=BH h.box
    have h24:nth σ4 σ1.length=some (.arr (ct+1) 3 true true (vs EN.av [eN0 z])):=f4.get (f3.get h2 (by have:=f1.len;simp;dsimp only at this;omega)) (by have:=f1.len;simp;dsimp only at this;omega)
    have hed:Ed σ4 d gd (.own σ1.length (ct+1) 0 1) vE true eb [eN0 z] E (if z+1>x then z+1 else x) y:=
     h.AkN hF (by simp) h4 (.inr ⟨rfl,_,_,rfl,h24⟩) (fun _ e he=>by simp at he) (fun e he=>.inr ⟨z,by simpa using he⟩) (by simp[eN0,EN.objs,AV.obj]) (fun o ho=>.inr (by simp only[AV.obj,List.mem_singleton]at ho;subst ho;exact f1.len)) (by simp)
    exact hR hf hlen _ _ _ _ hed rfl (hF.mono (by simp))
   ·have hil:=q1.le
    rw[List.length_map]at hil
    have hno:σ.length∉[o]:=by have:=BH ho;simp;omega
    have hdo:d∉[o]:=by have:=h.nd;simp[AV.obj]at this;simpa using this.1.1
    refine Ar rfl rfl ?_
    (conv=>whnf);repeat' (first|(refine CJ fun σ1 f1 h1 l1=>?_;have hE1:=h.Ol f1;have hd1:=hE1.box;have ho1:=f1.get ho (by simp);conv=>whnf)|(apply AL (hE1.RF 999999 DF);conv=>whnf)|(refine Aa hbt ?_;rintro _ rfl;conv=>whnf)|(refine Ez ?_;conv=>whnf)|(rw [h1];conv=>whnf)|(rw [hd1];conv=>whnf)|(refine XW (fv:=EN.av) (x:=eN0 z) rfl rfl (by omega) rfl hil ho1 fun σ2 f2 h2=>?_;have hd2:=f2.get hd1 hdo;have h12:=f2.get h1 hno;conv=>whnf)|(rw [hd2];conv=>whnf)|(refine kA ?_;conv=>whnf)|(refine Br.mk (fun hc=>?_) fun hc=>?_<;>first|exact hc.elim|conv=>whnf)|(refine kB ?_))
    refine E8 hd2 fun σ3 f3 h3 l3=>?_
    have hdl:=BH h.box
    have h13:=f3.get h12 (by simp;omega)
    (conv=>whnf);repeat' (first|(rw [h3];conv=>whnf)|(rw [h13];conv=>whnf)|(refine kA ?_;conv=>whnf)|(refine Br.mk (fun hc=>?_) fun hc=>?_<;>first|exact hc.elim|conv=>whnf)|(refine kB ?_))
    refine E8 h3 fun σ4 f4 h4 l4=>?_
    (conv=>whnf);repeat' (first  |(refine kA ?_;conv=>whnf)|(refine Br.mk (fun hc=>?_) fun hc=>?_<;>first|exact hc.elim|conv=>whnf)|(refine kB ?_))
    have hF:Fr σ σ4 [d,o]:=(((f1.mono (by simp)).trans (f2.mono (by simp))).trans (f3.mono (by simp))).trans (f4.mono (by simp))
    have hod:o∉[d]:=fun hm=>hdo (by simp at hm ⊢;exact hm.symm)
    have h24:nth σ4 o=some (.arr (ct+1) 3 true cn (vs EN.av (N.take i++[eN0 z]++N.drop i))):=f4.get (f3.get h2 hod) hod
    have hl4:(N.take i++[eN0 z]++N.drop i).length=N.length+1:=by simp only[List.length_append,List.length_take,List.length_drop,List.length_singleton];omega
    have hed:Ed σ4 d gd (.own o (ct+1) 0 (N.length+1)) vE true eb (N.take i++[eN0 z]++N.drop i) E (if z+1>x then z+1 else x) y:=
     h.AkN hF (by simp[AV.obj]) h4 (.inr ⟨rfl,_,_,by rw[hl4],h24⟩) hn2 (fun e he=>by
         rcases List.mem_append.1 he with he|he
         ·rcases List.mem_append.1 he with he|he
          ·exact .inl (List.mem_of_mem_take he)
          ·exact .inr ⟨z,by simpa using he⟩
         ·exact .inl (List.mem_of_mem_drop he)) (by
         rw[List.flatMap_append,List.flatMap_append,show[eN0 z].flatMap EN.objs=[] from rfl,List.append_nil,←List.flatMap_append,List.take_append_drop]
         exact List.Sublist.refl _) (fun o ho=>.inl ho) (by simp)
    exact hR hf hlen _ _ _ _ hed (by
     refine Eq.trans ?_ (AtK.ins (key:=GN.id) (x:=(⟨z,false,[],false,[]⟩:GN)) Ag q1 (fun n hn e=>hf (by obtain⟨m,hm,rfl⟩:=List.mem_map.1 hn;exact⟨m,hm,e⟩)))
     simp only[List.map_append,List.map_take,List.map_drop];rfl) (hF.mono (by simp[AV.obj]))
  ·obtain⟨cn,hn1,hn2⟩:=h.hn
   rcases hn1 with⟨rfl,rfl,rfl|⟨o,g,es',rfl,ho⟩⟩|⟨rfl,o,g,rfl,ho⟩
   ·exact absurd rfl h.oN
   ·exact absurd (by simp) hlen
   ·refine Ar rfl rfl ?_
    (conv=>whnf);repeat' (first|(refine CJ fun σ1 f1 h1 l1=>?_;have hE1:=h.Ol f1;have hd1:=hE1.box;conv=>whnf)|(apply AL (hE1.RF 999999 DF);conv=>whnf)|(refine Aa hbt ?_;rintro _ rfl;conv=>whnf)|(refine Ez ?_;conv=>whnf)|(refine Ji ?_;conv=>whnf)|(rw [h1];conv=>whnf)|(rw [hd1];conv=>whnf)|(refine kA ?_;conv=>whnf)|(refine Br.mk (fun hc=>?_) fun hc=>?_<;>first|exact hc.elim|conv=>whnf)|(refine kB ?_))
    all_goals first|exact hQ hf hlen _ _ f1
end
section
variable {σ:List Obj} {d gd:Nat} {vN vE:AV} {nb eb:Bool} {N:List EN} {E:List EE} {x y:Int} {ct:Nat} {K:AX→Am→Prop}
theorem Ed.at (h:Ed σ d gd vN vE nb eb N E x y) (hq:Ask N E x y) {z:Int} (hf:∃n∈N,n.n.id=z):nb=true∧∃o g c i,∃hi:i<N.length,vN=.own o g 0 N.length∧nth σ o=some (.arr g 3 true c (vs EN.av N))∧(c=true→∀e∈N,e.av.closed=true)∧(N[i]).n.id=z∧AtK Cc GN.id z (N.map EN.n) i∧
 Af (Ad tab) 167 [.CV (J3 nb eb N E x y).av.cells,.int .i64 z] (· =.Cb [.int .i64 (i:Nat),.bool true]):=by
 obtain⟨i,q1,hbt⟩:=QF (nb:=nb) (eb:=eb) hq hf
 obtain⟨n,hn,e⟩:=hf
 obtain⟨hil,hid,_⟩:=q1.found Ag hq.iN ⟨n.n,List.mem_map_of_mem hn,e⟩
 rw[List.length_map]at hil
 obtain⟨cn,hn1,hn2⟩:=h.hn
 rcases hn1 with⟨_,rfl,_⟩|⟨rfl,o,g,rfl,ho⟩
 ·simp at hil
 ·exact⟨rfl,o,g,cn,i,hil,rfl,ho,hn2,by simpa using hid,q1,hbt⟩
theorem QW {α:Type} {f:α→AV} {l:List α} {i:Nat} {a:α}:(vs f l).set i (f a)=vs f (l.set i a):=by simp[vs,List.map_set]
set_option maxHeartbeats 2000000 in
theorem Ag6 {op z fr to:Int} {nm:List UInt8} {v:GV} (h:Ed σ d gd vN vE nb eb N E x y) (hq:Ask N E x y) (hz:1≤z∧z≤1000000) (hop:op=2∨op=3∨op=4∨op=5) (hf:¬∃n∈N,n.n.id=z)
 (hP:∀σ' c',Fr σ σ' []→K (.DI (.iface 199 (.int .i64 10))) ⟨σ',c'⟩):
 A8 (Ad tab) 153 [.ref d gd 0 0,(GC.mk op z fr to nm v).av] ⟨σ,ct⟩ K:=by
 have DF:=hq.deep
 obtain⟨i,q1,hbt⟩:=Vb (nb:=nb) (eb:=eb) hq hf
 show A8 (Ad tab) _ [.ref d gd 0 0,.agg [.int .i64 op,.int .i64 z,.int .i64 fr,.int .i64 to,.str nm,.int .i64 v.k,.int .i64 v.n,.int .i64 v.d,.str v.s,.sl v.nn v.l]] _ _
 rcases hop with rfl|rfl|rfl|rfl
 all_goals
  refine Ar rfl rfl ?_
  (conv=>whnf);repeat' (first|(refine CJ fun σ1 f1 h1 l1=>?_;have hE1:=h.Ol f1;conv=>whnf)|(apply AL (hE1.RF 999999 DF);conv=>whnf)|(refine Aa hbt ?_;rintro _ rfl;conv=>whnf)|(refine Ji ?_;conv=>whnf)|(rw [h1];conv=>whnf)|(refine kA ?_;conv=>whnf)|(refine Br.mk (fun hc=>?_) fun hc=>?_<;>first|exact hc.elim|conv=>whnf)|(refine kB ?_))
  all_goals first|exact hP _ _ f1
set_option maxHeartbeats 2000000 in
theorem AjI {z fr to:Int} {nm:List UInt8} {v:GV} (h:Ed σ d gd vN vE nb eb N E x y) (hq:Ask N E x y) (hz:1≤z∧z≤1000000) (hf:∃n∈N,n.n.id=z)
 (hP:(∃ n∈N.map EN.n,n.id=z∧nm∈n.labels)→∀σ' c',Fr σ σ' []→K (.DI (.iface 199 (.int .i64 7))) ⟨σ',c'⟩)
 (hQ:(∃ n∈N.map EN.n,n.id=z∧nm∉n.labels∧¬n.labels.length<8)→∀σ' c',Fr σ σ' []→K (.DI (.iface 199 (.int .i64 20))) ⟨σ',c'⟩)
 (hR:∀n∈N.map EN.n,n.id=z→nm∉n.labels→n.labels.length<8→∀σ' c' N',Ed σ' d gd vN vE nb eb N' E x y→N'.map EN.n=Ba Cc GN.id {n with ln:=true,labels:=Ba Op.bytesLess id nm n.labels} (N.map EN.n)→Fr σ σ' (d::(vN.obj++(vE.obj++BO N E)))→K (.ok (.Cb [])) ⟨σ',c'⟩):
 A8 (Ad tab) 153 [.ref d gd 0 0,(GC.mk 3 z fr to nm v).av] ⟨σ,ct⟩ K:=by
 have DF:=hq.deep
 have hlN:=hq.lN
 obtain⟨rfl,o,g,cn,i,hi,rfl,ho,hcn,hid,q1,hbt⟩:=h.at hq hf
 have hmem:N[i]∈N:=List.getElem_mem hi
 have hok:=h.hN _ hmem
 obtain⟨hil,hl8⟩:=hq.iL _ hmem
 have hap:=h.Iw hi
 show A8 (Ad tab) _ [.ref d gd 0 0,.agg [.int .i64 3,.int .i64 z,.int .i64 fr,.int .i64 to,.str nm,.int .i64 v.k,.int .i64 v.n,.int .i64 v.d,.str v.s,.sl v.nn v.l]] _ _
 obtain⟨e,he⟩:∃e,e=N[i]:=⟨_,rfl⟩
 rw[← he]at hok hil hl8
 have hnt:nth (vs EN.av N) (Int.toNat (i:Int))=some e.av:=by rw[he];exact nV hi
 have Lc:nth (vs EN.av N) i=some e.av:=by rw[he];exact nV hi
 obtain⟨n,lv,pv⟩:=e
 have hok1:Hd .str 1 σ lv n.ln n.labels true:=hok.1
 have hok2:Hd GP.av 6 σ pv n.pn n.props true:=hok.2
 replace hl8:n.labels.length≤8:=hl8
 replace hil:Inc Op.bytesLess id n.labels:=hil
 have hmm:n∈N.map EN.n:=by rw[show n=(N[i]).n by rw[← he]];exact List.mem_map_of_mem hmem
 have hnz:n.id=z:=by rw[show n=(N[i]).n by rw[← he]];exact hid
 have hbs:=fun(nn:Bool)=>(bsS (nn:=nn) (x:=nm) (l:=n.labels) (by omega) hil).JF
 by_cases hin:nm∈n.labels
 ·have hbq:∀nn,∃j:Nat,Af (Ad tab) 171 [.sl nn (vs .str n.labels),.str nm] (· =.Cb [.int .i64 j,.bool true]):=fun nn=>by
   obtain⟨_,⟨j,b,rfl,r1,r2⟩,hd⟩:=hbs nn
   rw[r2.2 ⟨nm,hin,rfl⟩]at hd
   exact⟨j,hd⟩
  rcases hok1 with⟨hb,hl0,_⟩|⟨hb,ol,gl,rfl,hol⟩
  ·rw[hl0]at hin;simp at hin
  ·obtain⟨j,hbj⟩:=hbq true
   refine Ar rfl rfl ?_
   (conv=>whnf);repeat' (first|(refine CJ fun σ1 f1 h1 l1=>?_;have hE1:=h.Ol f1;have hd1:=hE1.box;have ho1:=f1.get ho (by simp);have hl1:=f1.get hol (by simp);conv=>whnf)|(apply AL (hE1.RF 999999 DF);conv=>whnf)|((first|refine Aa hbt ?_|refine Aa hbj ?_);rintro _ rfl;conv=>whnf)|(refine Ez ?_;conv=>whnf)|(refine Ji ?_;conv=>whnf)|(rw [h1];conv=>whnf)|(rw [hd1];conv=>whnf)|(rw [ho1];conv=>whnf)|(rw [hl1];conv=>whnf)|(refine Ah hnt ?_;conv=>whnf)|(refine Ah Lc ?_;conv=>whnf)|(refine kA ?_;conv=>whnf)|(refine Br.mk (fun hc=>?_) fun hc=>?_<;>first|exact hc.elim|conv=>whnf)|(refine kB ?_))
   all_goals first|exact hP ⟨n,hmm,hnz,hin⟩ _ _ f1
 ·have hbq:∀nn,∃j:Nat,AtK Op.bytesLess id nm n.labels j∧Af (Ad tab) 171 [.sl nn (vs .str n.labels),.str nm] (· =.Cb [.int .i64 j,.bool false]):=fun nn=>by
   obtain⟨_,⟨j,b,rfl,r1,r2⟩,hd⟩:=hbs nn
   cases b
   ·exact⟨j,r1,hd⟩
   ·obtain⟨w,hw,rfl⟩:=r2.1 rfl
    exact absurd hw hin
  have hno:∀w∈n.labels,id w≠nm:=fun w hw e=>hin (e▸hw)
  have hdl:=BH h.box
  have Ary:=BH ho
  have fin:∀σ1 σ2 σ3 c' lv',Fr σ σ1 []→Fr σ1 σ2 lv.obj→Fr σ2 σ3 [o]→nth σ3 o=some (.arr g 3 true false (vs EN.av (N.set i ⟨{n with ln:=true,labels:=Ba Op.bytesLess id nm n.labels},lv',pv⟩)))→
        Hd .str 1 σ2 lv' true (Ba Op.bytesLess id nm n.labels) true→(∀ q∈lv'.obj,q∈lv.obj∨σ1.length≤q)→n.labels.length<8→K (.ok (.Cb [])) ⟨σ3,c'⟩:=by
   intro σ1 σ2 σ3 c' lv' f1 f2 f3 h3 h2 hob hlt
   have Nj:(N[i]).objs=lv.obj++pv.obj:=by rw[← he];rfl
   have hov:∀q∈lv.obj++pv.obj,q≠o:=fun q hq e=>(hap q (.inr (by rw[Nj];exact hq))).2.2.2.2 (by rw[Nj];exact hq) |>.1 (by simp[AV.obj,e])
   have hnd:(lv.obj++pv.obj).Nodup:=by
        have h0:=h.nd
        rw[LG hi,Nj,List.nodup_cons,List.nodup_append,List.nodup_append,List.nodup_append,List.nodup_append]at h0
        exact h0.2.2.1.2.1.1.2.1
   have hlp:∀q∈pv.obj,q<σ.length:=hok2.lt
   have hll:∀q∈lv.obj,q<σ.length:=hok1.lt
   have hF:Fr σ σ3 (o::(N[i]).objs):=((f1.mono (by simp)).trans (f2.mono (fun q hq=>.inl (by rw[Nj];simp[hq])))).trans (f3.mono (by simp))
   have hlv:∀q∈lv'.obj,q≠o∧q∉pv.obj:=fun q hq=>by
        rcases hob q hq with hm|hm
        ·exact⟨hov q (List.mem_append_left _ hm),fun hp=>(List.nodup_append.1 hnd).2.2 q hm q hp rfl⟩
        ·have:=f1.len;exact⟨by omega,fun hp=>by have:=hlp q hp;omega⟩
   have h23:Hd .str 1 σ3 lv' true (Ba Op.bytesLess id nm n.labels) true:=h2.keep fun q hq=>f3.eq q (h2.lt q hq) (by simpa using(hlv q hq).1)
   have hp3:Hd GP.av 6 σ3 pv n.pn n.props true:=hok2.keep fun q hq=>by
        have hql:=hlp q hq
        refine(f3.eq q (by have:=f1.len;have:=f2.len;omega) (by simpa using hov q (List.mem_append_right _ hq))).trans ((f2.eq q (by have:=f1.len;omega) fun hm=>(List.nodup_append.1 hnd).2.2 q hm q hq rfl).trans (f1.eq q hql (by simp)))
   refine hR n hmm hnz hin hlt σ3 c' _ (h.setNode hi hF h3 (by simp) ⟨h23,hp3⟩ (fun q hq=>?_) ?_) ?_ (hF.mono fun q hq=>?_)
   ·rcases List.mem_append.1 hq with hq|hq
    ·rcases hob q hq with hm|hm
     ·exact .inl (by rw[Nj];exact List.mem_append_left _ hm)
     ·have:=f1.len;exact .inr (by omega)
    ·exact .inl (by rw[Nj];exact List.mem_append_right _ hq)
   ·exact List.nodup_append.2 ⟨h2.nodup,hok2.nodup,fun a ha b hb e=>(hlv a ha).2 (e▸hb)⟩
   ·rw[List.map_set]
    refine AtK.set (key:=GN.id) (x:={n with ln:=true,labels:=Ba Op.bytesLess id nm n.labels}) Ag hq.iN (by rw[show GN.id _=z from hnz];exact q1) ⟨n,hmm,rfl⟩
   ·rcases List.mem_cons.1 hq with rfl|hq
    ·exact .inl (by simp[AV.obj])
    ·exact .inl (by simp[Jc hmem hq])
  by_cases hlt:n.labels.length<8
  ·rcases hok1 with⟨hb,hl0,rfl|⟨ol,gl,el,rfl,hol⟩⟩|⟨hb,ol,gl,rfl,hol⟩
   ·obtain⟨j,hj,hbj⟩:=hbq false
    rw[hl0]at hbj hj
    obtain rfl:j=0:=by simpa using hj.le
    refine Ar rfl rfl ?_
    (conv=>whnf);repeat' (first|(refine CJ fun σ1 f1 h1 l1=>?_;have hE1:=h.Ol f1;have hd1:=hE1.box;have ho1:=f1.get ho (by simp);conv=>whnf)|(apply AL (hE1.RF 999999 DF);conv=>whnf)|((first|refine Aa hbt ?_|refine Aa hbj ?_);rintro _ rfl;conv=>whnf)|(refine Ez ?_;conv=>whnf)|(rw [h1];conv=>whnf)|(rw [hd1];conv=>whnf)|(rw [ho1];conv=>whnf)|(refine Ah hnt ?_;conv=>whnf)|(refine Ah Lc ?_;conv=>whnf)|(refine Agj (x:=.str nm) rfl rfl (by omega) fun σ2 f2 h2=>?_;have ho2:=f2.get ho1 (by simp);conv=>whnf)|(rw [ho2];conv=>whnf)|(refine E8 ho2 fun σ3 f3 h3 l3=>?_;conv=>whnf)|(refine kA ?_;conv=>whnf)|(refine Br.mk (fun hc=>?_) fun hc=>?_<;>first|exact hc.elim|conv=>whnf)|(refine kB ?_))
    all_goals first
     |exact fin σ1 σ2 σ3 _ _ f1 (f2.mono (by simp)) f3 (h3.trans (by rw[← QW];rfl)) (.inr ⟨rfl,_,_,by rw[hl0];rfl,by rw[hl0];exact h2⟩) (fun q hq=>.inr (by simp only[AV.obj,List.mem_singleton]at hq;subst hq;exact Nat.le_refl _)) hlt
   ·obtain⟨j,hj,hbj⟩:=hbq false
    rw[hl0]at hbj hj
    obtain rfl:j=0:=by simpa using hj.le
    refine Ar rfl rfl ?_
    (conv=>whnf);repeat' (first|(refine CJ fun σ1 f1 h1 l1=>?_;have hE1:=h.Ol f1;have hd1:=hE1.box;have ho1:=f1.get ho (by simp);have hl1:=f1.get hol (by simp);conv=>whnf)|(apply AL (hE1.RF 999999 DF);conv=>whnf)|((first|refine Aa hbt ?_|refine Aa hbj ?_);rintro _ rfl;conv=>whnf)|(refine Ez ?_;conv=>whnf)|(rw [h1];conv=>whnf)|(rw [hd1];conv=>whnf)|(rw [ho1];conv=>whnf)|(refine Ah hnt ?_;conv=>whnf)|(refine Ah Lc ?_;conv=>whnf)|(rw [hl1];conv=>whnf)|(refine Tt (x:=.str nm) rfl rfl (by omega) hl1 fun σ2 f2 h2=>?_;have ho2:=f2.get ho1 (by simp);conv=>whnf)|(rw [ho2];conv=>whnf)|(refine E8 ho2 fun σ3 f3 h3 l3=>?_;conv=>whnf)|(refine kA ?_;conv=>whnf)|(refine Br.mk (fun hc=>?_) fun hc=>?_<;>first|exact hc.elim|conv=>whnf)|(refine kB ?_))
    all_goals first
     |exact fin σ1 σ2 σ3 _ _ f1 (f2.mono (by simp)) f3 (h3.trans (by rw[← QW];rfl)) (.inr ⟨rfl,_,_,by rw[hl0];rfl,by rw[hl0];exact h2⟩) (fun q hq=>.inr (by simp only[AV.obj,List.mem_singleton]at hq;subst hq;exact Nat.le_refl _)) hlt
   ·obtain⟨j,hj,hbj⟩:=hbq true
    have hjl:=hj.le
    have hoo:o∉[ol]:=by
     have:=(hap ol (.inr (by rw[← he];simp[EN.objs,AV.obj]))).2.2.2.2 (by rw[← he];simp[EN.objs,AV.obj]) |>.1
     simpa[AV.obj,eq_comm]using this
    refine Ar rfl rfl ?_
    (conv=>whnf);repeat' (first|(refine CJ fun σ1 f1 h1 l1=>?_;have hE1:=h.Ol f1;have hd1:=hE1.box;have ho1:=f1.get ho (by simp);have hl1:=f1.get hol (by simp);conv=>whnf)|(apply AL (hE1.RF 999999 DF);conv=>whnf)|((first|refine Aa hbt ?_|refine Aa hbj ?_);rintro _ rfl;conv=>whnf)|(refine Ez ?_;conv=>whnf)|(rw [h1];conv=>whnf)|(rw [hd1];conv=>whnf)|(rw [ho1];conv=>whnf)|(refine Ah hnt ?_;conv=>whnf)|(refine Ah Lc ?_;conv=>whnf)|(rw [hl1];conv=>whnf)|(refine XW (fv:=.str) (x:=nm) rfl rfl (by omega) rfl hjl hl1 fun σ2 f2 h2=>?_;have ho2:=f2.get ho1 hoo;conv=>whnf)|(rw [ho2];conv=>whnf)|(refine E8 ho2 fun σ3 f3 h3 l3=>?_;conv=>whnf)|(refine kA ?_;conv=>whnf)|(refine Br.mk (fun hc=>?_) fun hc=>?_<;>first|exact hc.elim|conv=>whnf)|(refine kB ?_))
    have hp:=AtK.ins (key:=id) (x:=nm) Aq hj hno
    have hlen2:n.labels.length+1=(Ba Op.bytesLess id nm n.labels).length:=by rw[← hp,List.length_append,List.length_append,List.length_take,List.length_drop,List.length_singleton];omega
    rw[hp]at h2
    exact fin σ1 σ2 σ3 _ (.own ol _ 0 (n.labels.length+1)) f1 f2 f3 (h3.trans (by rw[← QW];rfl)) (.inr ⟨rfl,_,_,by rw[hlen2],h2⟩) (fun q hq=>.inl hq) hlt
  ·rcases hok1 with⟨hb,hl0,_⟩|⟨hb,ol,gl,rfl,hol⟩
   ·rw[hl0]at hlt;simp at hlt
   ·obtain⟨j,_,hbj⟩:=hbq true
    refine Ar rfl rfl ?_
    (conv=>whnf);repeat' (first|(refine CJ fun σ1 f1 h1 l1=>?_;have hE1:=h.Ol f1;have hd1:=hE1.box;have ho1:=f1.get ho (by simp);have hl1:=f1.get hol (by simp);conv=>whnf)|(apply AL (hE1.RF 999999 DF);conv=>whnf)|((first|refine Aa hbt ?_|refine Aa hbj ?_);rintro _ rfl;conv=>whnf)|(refine Ez ?_;conv=>whnf)|(refine Ji ?_;conv=>whnf)|(rw [h1];conv=>whnf)|(rw [hd1];conv=>whnf)|(rw [ho1];conv=>whnf)|(rw [hl1];conv=>whnf)|(refine Ah hnt ?_;conv=>whnf)|(refine Ah Lc ?_;conv=>whnf)|(refine kA ?_;conv=>whnf)|(refine Br.mk (fun hc=>?_) fun hc=>?_<;>first|exact hc.elim|conv=>whnf)|(refine kB ?_))
    all_goals first|exact hQ ⟨n,hmm,hnz,hin,hlt⟩ _ _ f1
end
end AI
end Go.Proofs.YtchcadfjbkkgmaaGreatDoor
