/- component.Weak. The least topological order: by readiness, by counts. Plain. A call of an entry that the model answers. component.Topo: its pieces. Maps of the call's own: entries struck out; maps to truth values. Tarjan's algorithm: what holds of its state, and its steps: plain. Tarjan's algorithm: a component leaves the stack: plain. -/
import Derived.Test.YtjjhejbffgaabaaGreatDoorQMae
import Derived.Test.YtjjhejbffgaabaaGreatDoorQMaf
import Derived.Test.YtjjhejbffgaabaaGreatDoorQVa
import Derived.Test.YtjjhejbffgaabaaGreatDoorQCore
set_option linter.unusedVariables false
set_option maxRecDepth 4000
namespace Go.Proofs.YtjjhejbffgaabaaGreatDoor
namespace AI
def BQ (g:GG):List Int:=g.nodes.map GN.id
theorem F9 (g:GG):(BQ g).length=g.nodes.length:=by simp[BQ]
theorem L9 {g:GG} {i:Nat} (h:i<g.nodes.length):(BQ g)[i]'(by rw[F9];exact h)=(g.nodes[i]).id:=by simp[BQ]
theorem Ku {g:GG} {i:Nat} (h:i<g.nodes.length):(BQ g).take (i+1)=(BQ g).take i++[(g.nodes[i]).id]:=by
 rw[List.take_succ_eq_append_getElem (by rw[F9];exact h),L9 h]
theorem YC {l:List Int} (h:∀i (hi:i<l.length),0<i→l[i-1]<l[i]):l.Pairwise (· <·):=by
 rw[List.pairwise_iff_getElem]
 intro i j hi hj hij
 induction j with
 |zero=>omega
 |succ j ih=>
  have h1:=h (j+1) hj (by omega)
  simp only[Nat.add_sub_cancel]at h1
  by_cases e:i=j
  ·subst e;exact h1
  ·exact Int.lt_trans (ih (by omega) (by omega)) h1
theorem Aat {g:GG} (h:BK g=0):(BQ g).Pairwise (· <·):=YC fun i hi h0=>by
 have hi':i<g.nodes.length:=by rw[← F9];exact hi
 rw[L9 (by omega),L9 hi']
 exact(RG hi' ((Mc h).2.2.1 i hi')).1 h0
theorem YD {g:GG} (h:BK g=0):(BQ g).Nodup:=(Aat h).imp fun h=>by omega
theorem Aau {g:GG} (h:BK g=0):∀y∈BQ g,1≤y:=fun y hy=>by
 obtain⟨i,hi,rfl⟩:=List.getElem_of_mem hy
 have hi':i<g.nodes.length:=by rw[← F9];exact hi
 rw[L9 hi']
 exact(RG hi' ((Mc h).2.2.1 i hi')).2.1
theorem Py {g:GG} (h:BK g=0):∀e∈g.edges,e.fr∈BQ g∧e.to∈BQ g:=fun e he=>by
 obtain⟨i,hi,rfl⟩:=List.getElem_of_mem he
 have:=VW hi ((Mc h).2.2.2 i hi)
 exact⟨this.2.2.2.1,this.2.2.2.2.1⟩
def Eh (types:List (List UInt8)) (g:GG):List (Int×Int):=(Fh types g).map fun e=>(e.fr,e.to)
def Fj (types:List (List UInt8)) (g:GG):List (Int×Int):=JQ (BQ g) (Eh types g)
theorem newF {Oz:Obj} {c:Nat}:CJ (Ag tab) 25 [] ⟨[Oz],c⟩ fun out s'=>∃c',out=.ok (.ref 2 (c+1) 0 0)∧s'=⟨SH Oz c (c+1) [] (fun z=>z) [],c'⟩:=by
 refine CB rfl rfl ?_
 (conv=>whnf);repeat' (first  |(refine kA ?_;conv=>whnf)|(refine Br.mk (fun hc=>?_) fun hc=>?_<;>first|exact hc.elim|conv=>whnf)|(refine kB ?_))
 all_goals first|exact⟨_,rfl,rfl⟩
theorem Ig {x:Int}:FU (.int .i64 x) (.int .i64 x)=true:=by simp[FU]
set_option maxHeartbeats 2000000 in
theorem Abr {types:List (List UInt8)} {tn:Bool} (hl:types.length<2^63) {g:GG} (hg:g.ok) (hN:g.nodes.length<2^39) (hE:g.edges.length<2^39):
 AX (Ag tab) 10 [g.av,.sl tn (vs .str types)] (fun v=>∃b,v=.sl b (vs pv (if BK g=0 then Fj types g else[]))∧(b=false→(if BK g=0 then Fj types g else[])=[])):=by
 have pc:=UE hg
 by_cases hc:BK g=0
 case neg=>
  rw[if_neg hc]
  refine Ai rfl rfl ?_
  (conv=>whnf);repeat' (first|(refine Ae pc ?_;rintro _ rfl;conv=>whnf)|(refine kA ?_;conv=>whnf)|(refine Br.mk (fun hc=>?_) fun hc=>?_<;>first|exact hc.elim|conv=>whnf)|(refine kB ?_))
  all_goals first|exact absurd ‹_› hc|exact⟨false,rfl,fun _=>rfl⟩
 rw[if_pos hc]
 rw[hc]at pc
 obtain⟨_,⟨be,rfl⟩,pe⟩:=(YE (types:=types) (tn:=tn) hl hg hE).UZ
 have hnd:=YD hc
 have hpos:=Aau hc
 have Md:=Py hc
 refine Ai rfl rfl ?_
 (conv=>whnf);repeat' (first|(refine Ae pc ?_;rintro _ rfl;conv=>whnf)|(refine (newF).mono ?_;rintro _ _ ⟨c',rfl,rfl⟩;conv=>whnf)|(refine kA ?_;conv=>whnf)|(refine Br.mk (fun hc=>?_) fun hc=>?_<;>first|exact hc.elim|conv=>whnf)|(refine kB ?_))
 all_goals first|(exfalso;omega)|skip
 refine Au (fun m env s=>∃(i c:Nat),m=g.nodes.length-i∧env=[(1,.sl tn (vs .str types)),(2,.ref 0 0 0 0),(5,.ref 2 2 0 0),(18,.sl g.nn (vs GN.av g.nodes)),(19,.int .i64 g.nodes.length),(20,.int .i64 i)]∧s=⟨SH (.arr 0 4 true true [g.av]) 1 2 ((BQ g).take i) (fun z=>z) [],c⟩) ?_ _ _ _ ⟨0,_,rfl,rfl,rfl⟩
 rintro _ _ _ ⟨i,c,rfl,rfl,rfl⟩
 refine⟨rfl,?_⟩
 unfold SH
 by_cases hlt:i<g.nodes.length
 ·have hx:(g.nodes[i]).id∉(BQ g).take i:=by
   have h1:=Ku hlt
   have h2:=hnd.sublist (List.take_sublist (i+1) (BQ g))
   rw[h1,List.nodup_append]at h2
   exact fun hm=>h2.2.2 _ hm _ (by simp) rfl
  (conv=>whnf);repeat' (first|(refine (Adl hx).mono ?_;rintro _ _ ⟨c',rfl,rfl⟩;conv=>whnf)|(refine kA ?_;conv=>whnf)|(refine Br.mk (fun hc=>?_) fun hc=>?_<;>first|exact hc.elim|conv=>whnf)|(refine kB ?_))
  all_goals first
   |(exfalso;omega)
   |(rw [← Ku hlt];exact again.mk ⟨_,by omega,i+1,_,rfl,rfl,rfl⟩)
 rw[List.take_of_length_le (by rw[F9];omega)]
 (conv=>whnf);repeat' (first|(refine Ae pe ?_;rintro _ rfl;conv=>whnf)|(refine kA ?_;conv=>whnf)|(refine Br.mk (fun hc=>?_) fun hc=>?_<;>first|exact hc.elim|conv=>whnf)|(refine kB ?_))
 all_goals first|(exfalso;omega)|skip
 refine Au (fun m env s=>∃(i c:Nat) (p r:Int→Int),m=(Fh types g).length-i∧CO (BQ g) p r∧AQ (BQ g) r=JQ (BQ g) ((Eh types g).take i)∧env=[(2,.ref 0 0 0 0),(5,.ref 2 2 0 0),(31,.sl be (vs GE.av (Fh types g))),(32,.int .i64 (Fh types g).length),(33,.int .i64 i)]∧s=⟨SH (.arr 0 4 true true [g.av]) 1 2 (BQ g) p [],c⟩) ?_ _ _ _ ⟨0,_,_,_,rfl,.start _,rfl,rfl,rfl⟩
 rintro _ _ _ ⟨i,c,p,r,rfl,hF,hr,rfl,rfl⟩
 refine⟨rfl,?_⟩
 unfold SH
 have hEl:(Fh types g).length≤g.edges.length:=List.length_filter_le _ _
 by_cases hlt:i<(Fh types g).length
 ·obtain⟨ha,hb⟩:=Md _ (List.mem_filter.1 (List.getElem_mem hlt)).1
  have hstep:AQ (BQ g) (fun c=>(Fp (r ((Fh types g)[i]).fr) (r ((Fh types g)[i]).to) (c,r c)).2)=JQ (BQ g) ((Eh types g).take (i+1)):=by
   rw[List.take_succ_eq_append_getElem (by simpa[Eh]using hlt),U0,←hr]
   have e1:(Eh types g)[i]'(by simpa[Eh]using hlt)=(((Fh types g)[i]).fr,((Fh types g)[i]).to):=by simp[Eh]
   rw[e1]
   exact(Me ha hb).symm
  (conv=>whnf);repeat' (first|(refine (AeM hF hnd hpos ha hb).mono ?_;rintro _ _ ⟨c',p',hF',rfl,rfl⟩;conv=>whnf)|(refine kA ?_;conv=>whnf)|(refine Br.mk (fun hc=>?_) fun hc=>?_<;>first|exact hc.elim|conv=>whnf)|(refine kB ?_))
  all_goals first
   |(exfalso;omega)
   |exact again.mk ⟨_,by omega,i+1,_,_,_,rfl,by assumption,hstep,rfl,rfl⟩
 rw[List.take_of_length_le (by simp[Eh];omega)]at hr
 (conv=>whnf);repeat' (first  |(refine kA ?_;conv=>whnf)|(refine Br.mk (fun hc=>?_) fun hc=>?_<;>first|exact hc.elim|conv=>whnf)|(refine kB ?_))
 all_goals first|(exfalso;omega)|skip
 have hLl:(AQ (BQ g) r).length=g.nodes.length:=by simp[AQ,BQ]
 refine Au (fun m env s=>∃(i c ga n:Nat) (b:Bool) (p:Int→Int),m=g.nodes.length-i∧i≤g.nodes.length∧n=i∧(b=false→i=0)∧CO (BQ g) p r∧env=[(5,.ref 2 2 0 0),(10,.own 3 ga 0 n),(45,.sl g.nn (vs GN.av g.nodes)),(46,.int .i64 g.nodes.length),(47,.int .i64 i)]∧s=⟨SH (.arr 0 4 true true [g.av]) 1 2 (BQ g) p [.arr ga 2 b true (vs pv ((AQ (BQ g) r).take i))],c⟩) ?_ _ _ _ ⟨0,_,_,_,_,p,rfl,by omega,rfl,fun _=>rfl,hF,rfl,rfl⟩
 have Md:=hr
 clear hF hc hlt hr
 rintro _ _ _ ⟨i,c,ga,n,b,p,rfl,hi,rfl,hb0,hF,rfl,rfl⟩
 refine⟨rfl,?_⟩
 unfold SH
 by_cases hlt:n<g.nodes.length
 ·have hx:(g.nodes[n]).id∈BQ g:=List.mem_map_of_mem (List.getElem_mem hlt)
  have hsn:(AQ (BQ g) r).take (n+1)=(AQ (BQ g) r).take n++[((g.nodes[n]).id,r (g.nodes[n]).id)]:=by
   rw[List.take_succ_eq_append_getElem (by omega)]
   simp[AQ,BQ]
  have htl:((AQ (BQ g) r).take n).length=n:=by rw[List.length_take];omega
  (conv=>whnf);repeat' (first|(refine need.mk Ig ?_;conv=>whnf)|(refine (Ab5 hF hnd hpos hx).mono ?_;rintro _ _ ⟨c',p',hF',rfl,rfl⟩;conv=>whnf)|(refine Aav (f:=pv) (l:=(AQ (BQ g) r).take n) (x:=((g.nodes[n]).id,r (g.nodes[n]).id)) VO htl.symm (by rw[htl];omega) ?_;conv=>whnf)|(refine kA ?_;conv=>whnf)|(refine Br.mk (fun hc=>?_) fun hc=>?_<;>first|exact hc.elim|conv=>whnf)|(refine kB ?_))
  all_goals first
   |(exfalso;omega)
   |(rw [← hsn];exact again.mk ⟨_,by omega,n+1,_,_,_,_,_,rfl,by omega,by omega,(fun h=>by cases h),by assumption,rfl,rfl⟩)
 ·rw[List.take_of_length_le (by omega)]
  (conv=>whnf);repeat' (first  |(refine kA ?_;conv=>whnf)|(refine Br.mk (fun hc=>?_) fun hc=>?_<;>first|exact hc.elim|conv=>whnf)|(refine kB ?_))
  all_goals first
   |(exfalso;omega)
   |exact⟨b,congrArg (AV.sl b) ((Adm (by omega)).trans (congrArg (vs pv) Md)),fun h=>by
     have h1:=hb0 h
     have h2:(Fj types g).length=0:=by rw[show Fj types g=AQ (BQ g) r from Md.symm];omega
     exact List.eq_nil_of_length_eq_zero h2⟩
def Zp (es:List (Int×Int)) (out:List Int) (k:Int):Prop:=∀e∈es,e.2=k→e.1∈out
instance (es:List (Int×Int)) (out:List Int) (k:Int):Decidable (Zp es out k):=by unfold Zp;infer_instance
section
variable {α β:Type} [DecidableEq α]
def HY:List (α×β)→α→List (α×β)
 |[],_=>[]
 |(k',v)::M,k=>if k=k' then M else(k',v)::HY M k
def II (M:List (α×β)):Prop:=(M.map (·.1)).Nodup
theorem IK {M:List (α×β)} {k:α}:AZ M k=none↔k∉M.map (·.1):=by
 induction M with
 |nil=>simp[AZ]
 |cons p M ih=>
  obtain⟨a,b⟩:=p
  by_cases h:k=a
  ·subst h;simp[AZ]
  ·rw[show AZ ((a,b)::M) k=AZ M k from if_neg h,ih,List.map_cons,List.mem_cons]
   simp[h]
theorem XC {M:List (α×β)} (hn:II M) {k k':α}:AZ (HY M k) k'=if k'=k then none else AZ M k':=by
 induction M with
 |nil=>simp[HY,AZ]
 |cons p M ih=>
  obtain⟨a,b⟩:=p
  have hn':=List.nodup_cons.1 hn
  by_cases h:k=a
  ·subst h
   rw[show HY ((k,b)::M) k=M from if_pos rfl]
   by_cases h1:k'=k
   ·subst h1
    rw[if_pos rfl]
    exact IK.2 hn'.1
   ·rw[if_neg h1]
    simp only[AZ,if_neg h1]
  ·rw[show HY ((a,b)::M) k=(a,b)::HY M k from if_neg h]
   simp only[AZ,ih hn'.2]
   by_cases h1:k'=a
   ·subst h1;rw[if_pos rfl,if_neg (fun e=>h e.symm),if_pos rfl]
   ·rw[if_neg h1,if_neg h1]
theorem XW {M:List (α×β)} {k x:α} (h:x∈(HY M k).map (·.1)):x∈M.map (·.1):=by
 induction M with
 |nil=>exact h
 |cons p M ih=>
  obtain⟨a,b⟩:=p
  by_cases e:k=a
  ·rw[show HY ((a,b)::M) k=M from if_pos e]at h
   exact List.mem_cons_of_mem _ h
  ·rw[show HY ((a,b)::M) k=(a,b)::HY M k from if_neg e]at h
   rcases List.mem_cons.1 h with h|h
   ·exact h▸List.mem_cons_self ..
   ·exact List.mem_cons_of_mem _ (ih h)
theorem Vh {M:List (α×β)} (hn:II M) (k:α):II (HY M k):=by
 induction M with
 |nil=>exact hn
 |cons p M ih=>
  obtain⟨a,b⟩:=p
  have hn':=List.nodup_cons.1 hn
  by_cases e:k=a
  ·rw[show HY ((a,b)::M) k=M from if_pos e];exact hn'.2
  ·rw[show HY ((a,b)::M) k=(a,b)::HY M k from if_neg e]
   exact List.nodup_cons.2 ⟨fun h=>hn'.1 (XW h),ih hn'.2⟩
theorem NM {M:List (α×β)} {k x:α} {v:β}:x∈(Bz M k v).map (·.1)↔x=k∨x∈M.map (·.1):=by
 have h:=@IK α β _ (Bz M k v) x
 have h2:=@IK α β _ M x
 rw[Cj]at h
 by_cases e:x=k
 ·subst e
  rw[if_pos rfl]at h
  refine⟨fun _=>.inl rfl,fun _=>Classical.byContradiction fun hc=>by have:=h.2 hc;cases this⟩
 ·rw[if_neg e]at h
  constructor
  ·intro hx
   refine .inr (Classical.byContradiction fun hc=>(h.1 (h2.2 hc)) hx)
  ·rintro(hx|hx)
   ·exact absurd hx e
   ·exact Classical.byContradiction fun hc=>(h2.1 (h.2 hc)) hx
theorem PS {M:List (α×β)} (hn:II M) (k:α) (v:β):II (Bz M k v):=by
 induction M with
 |nil=>simp[II,Bz]
 |cons p M ih=>
  obtain⟨a,b⟩:=p
  have hn':=List.nodup_cons.1 hn
  by_cases e:k=a
  ·subst e
   rw[show Bz ((k,b)::M) k v=(k,v)::M from if_pos rfl]
   exact List.nodup_cons.2 hn'
  ·rw[show Bz ((a,b)::M) k v=(a,b)::Bz M k v from if_neg e]
   refine List.nodup_cons.2 ⟨fun h=>?_,ih hn'.2⟩
   rcases NM.1 h with h|h
   ·exact e h.symm
   ·exact hn'.1 h
theorem Y0 {M:List (α×β)} {k:α} {v:β} (h:AZ M k=none):(Bz M k v).length=M.length+1:=by
 induction M with
 |nil=>rfl
 |cons p M ih=>
  obtain⟨a,b⟩:=p
  by_cases e:k=a
  ·subst e;simp[AZ]at h
  ·simp only[AZ,if_neg e]at h
   rw[show Bz ((a,b)::M) k v=(a,b)::Bz M k v from if_neg e,List.length_cons,ih h,List.length_cons]
variable {fk:α→AV} {fv:β→AV} {t:IV}
theorem UA (hk:∀a b,BU t (fk a) (fk b)=some (decide (a=b))) (k:α):∀(M:List (α×β)) (i:Nat),
 (AZ M k=none∧findKey t (fk k) (Gm fk fv M) i=some none)∨
 ∃j v,AZ M k=some v∧findKey t (fk k) (Gm fk fv M) i=some (some (i+j,fv v))∧(Gm fk fv M).eraseIdx j=Gm fk fv (HY M k)
 |[],i=>.inl ⟨rfl,rfl⟩
 |(a,b)::M,i=>by
  by_cases h:k=a
  ·subst h
   refine .inr ⟨0,b,by simp[AZ],?_,?_⟩
   ·simp only[Gm,List.map_cons,findKey,hk,decide_true,Nat.add_zero]
   ·rw[show HY ((k,b)::M) k=M from if_pos rfl];rfl
  ·have hd:HY ((a,b)::M) k=(a,b)::HY M k:=if_neg h
   rcases UA hk k M (i+1)with⟨h1,h2⟩|⟨j,v,h1,h2,h3⟩
   ·refine .inl ⟨by simp[AZ,h,h1],?_⟩
    simp only[Gm,List.map_cons,findKey,hk,decide_eq_false h]at h2 ⊢
    exact h2
   ·refine .inr ⟨j+1,v,by simp[AZ,h,h1],?_,?_⟩
    ·simp only[Gm,List.map_cons,findKey,hk,decide_eq_false h]at h2 ⊢
     rw[h2];congr 3;omega
    ·rw[hd]
     show(fk a,fv b)::(Gm fk fv M).eraseIdx j=(fk a,fv b)::Gm fk fv (HY M k)
     rw[h3]
theorem XY (hk:∀a b,BU t (fk a) (fk b)=some (decide (a=b))) {M:List (α×β)} {k:α} {K:Option (Nat×AV)→Prop}
 (h1:AZ M k=none→K none) (h2:∀i v,AZ M k=some v→(Gm fk fv M).eraseIdx i=Gm fk fv (HY M k)→K (some (i,fv v))):H7 t (fk k) (Gm fk fv M) K:=by
 rcases UA (fv:=fv) hk k M 0 with⟨g1,g2⟩|⟨j,v,g1,g2,g3⟩
 ·exact⟨_,g2,h1 g1⟩
 ·rw[Nat.zero_add]at g2
  exact⟨_,g2,h2 _ _ g1 g3⟩
end
abbrev I5 (M:List (Int×Bool)):List (AV×AV):=Gm (.int .i64) .bool M
theorem fkT {M:List (Int×Bool)} {k:Int} {K:Option (Nat×AV)→Prop}
 (h1:AZ M k=none→K none) (h2:∀i v,AZ M k=some v→(I5 M).eraseIdx i=I5 (HY M k)→K (some (i,.bool v))):H7 .int (.int .i64 k) (I5 M) K:=XY EL h1 h2
theorem msT {M:List (Int×Bool)} {k:Int} {v:Bool} {K:List (AV×AV)→Prop} (h:K (I5 (Bz M k v))):NV .int (.int .i64 k) (.bool v) (I5 M) K:=KT EL h
section
inductive IY (nx:Int→List Int) (a:Int):Int→Prop
 |refl:IY nx a a
 |step {b c:Int}:IY nx a b→c∈nx b→IY nx a c
theorem IY.trans {nx:Int→List Int} {a b c:Int} (h:IY nx a b) (k:IY nx b c):IY nx a c:=by
 induction k with
 |refl=>exact h
 |step _ hc ih=>exact .step ih hc
theorem IY.one {nx:Int→List Int} {a b:Int} (h:b∈nx a):IY nx a b:=.step .refl h
theorem IY.stay {nx:Int→List Int} {C:Int→Prop} (hC:∀v,C v→∀w∈nx v,C w) {a b:Int} (h:IY nx a b) (ha:C a):C b:=by
 induction h with
 |refl=>exact ha
 |step _ hc ih=>exact hC _ ih _ hc
def Least (nx:Int→List Int) (v x:Int):Prop:=IY nx v x∧IY nx x v∧∀u,IY nx v u→IY nx u v→x≤u
def upd {α:Type} (f:Int→α) (a:Int) (b:α):Int→α:=fun x=>if x=a then b else f x
theorem En {α:Type} {f:Int→α} {a:Int} {b:α}:upd f a b a=b:=if_pos rfl
theorem upd_ne {α:Type} {f:Int→α} {a x:Int} {b:α} (h:x≠a):upd f a b x=f x:=if_neg h
structure TJ where
 n:Nat
 vis:Int→Prop
 ix:Int→Nat
 low:Int→Nat
 S:List Int
 T:List (Int×Nat)
 sm:Int→Int
def Lc (T:List (Int×Nat)) (v:Int):Prop:=∀p∈T,p.1≠v
structure Ey (nx:Int→List Int) (s:TJ):Prop where
 X4:∀v,s.vis v→s.ix v<s.n
 inj:∀v w,s.vis v→s.vis w→s.ix v=s.ix w→v=w
 sV:∀v∈s.S,s.vis v
 sI:s.S.Pairwise (fun a b=>s.ix a<s.ix b)
 tS:∀p∈s.T,p.1∈s.S
 tI:s.T.Pairwise (fun a b=>s.ix b.1<s.ix a.1)
 tR:∀p∈s.T,∀v∈s.S,s.ix p.1≤s.ix v→IY nx p.1 v
 tA:∀p∈s.T,p.2≤(nx p.1).length∧∀j w,j<p.2→(nx p.1)[j]?=some w→s.vis w
 lf:∀v,s.vis v→Lc s.T v→∀w∈nx v,s.vis w
 pp:∀v,s.vis v→v∉s.S→∀w∈nx v,s.vis w∧w∉s.S
 lo:∀v∈s.S,s.low v≤s.ix v∧∃w∈s.S,s.ix w=s.low v∧IY nx v w
 le:∀v∈s.S,∀w∈s.S,w∈nx v→(∀ p∈s.T,p.1=v→∃j,j<p.2∧(nx v)[j]?=some w)→s.low v≤s.ix w
 lc:∀v∈s.S,Lc s.T v→∀p∈s.T,s.ix p.1<s.ix v→(∀ q∈s.T,s.ix q.1<s.ix v→s.ix q.1≤s.ix p.1)→s.low p.1≤s.low v
 ll:∀v∈s.S,Lc s.T v→s.low v<s.ix v
 rt:∀v∈s.S,∃p∈s.T,s.ix p.1≤s.ix v
 ok:∀v,s.vis v→v∉s.S→Least nx v (s.sm v)
variable {nx:Int→List Int} {s:TJ}
theorem Ey.none {ix low:Int→Nat} {sm:Int→Int}:Ey nx ⟨0,fun _=>False,ix,low,[],[],sm⟩ where
 X4:=fun _ h=>h.elim
 inj:=fun _ _ h=>h.elim
 sV:=fun _ h=>by cases h
 sI:=List.Pairwise.nil
 tS:=fun _ h=>by cases h
 tI:=List.Pairwise.nil
 tR:=fun _ h=>by cases h
 tA:=fun _ h=>by cases h
 lf:=fun _ h=>h.elim
 pp:=fun _ h=>h.elim
 lo:=fun _ h=>by cases h
 le:=fun _ h=>by cases h
 lc:=fun _ h=>by cases h
 ll:=fun _ h=>by cases h
 rt:=fun _ h=>by cases h
 ok:=fun _ h=>h.elim
abbrev Ld (s:TJ) (m:Int) (T1:List (Int×Nat)):TJ:=⟨s.n+1,fun v=>s.vis v∨v=m,upd s.ix m s.n,upd s.low m s.n,s.S++[m],(m,0)::T1,s.sm⟩
structure Goes (nx:Int→List Int) (s:TJ) (m:Int) (T1:List (Int×Nat)):Prop where
 nm:T1.map Prod.fst=s.T.map Prod.fst
 old:∀p∈T1,p∈s.T∨(∃ q,s.T.head?=some q∧q.1=p.1∧p.2=q.2+1∧(nx p.1)[q.2]?=some m)
 top:∀p,s.T.head?=some p→m∈nx p.1
theorem MO {T1 T:List (Int×Nat)} (h:T1.map Prod.fst=T.map Prod.fst) {v:Int}:(∃ p∈T1,p.1=v)↔∃p∈T,p.1=v:=by
 have e:∀{L:List (Int×Nat)},(∃ p∈L,p.1=v)↔v∈L.map Prod.fst:=fun{L}=>by rw[List.mem_map]
 rw[e,e,h]
theorem U5 {T1 T:List (Int×Nat)} (h:T1.map Prod.fst=T.map Prod.fst) {p:Int×Nat} (hp:p∈T1):∃q∈T,q.1=p.1:=(MO h).1 ⟨p,hp,rfl⟩
theorem AaJ {T1 T:List (Int×Nat)} (h:T1.map Prod.fst=T.map Prod.fst) {v:Int}:Lc T1 v↔Lc T v:=by
 have:=MO h (v:=v)
 unfold Lc
 constructor
 ·intro k p hp e;obtain⟨q,hq,eq⟩:=this.2 ⟨p,hp,e⟩;exact k q hq eq
 ·intro k p hp e;obtain⟨q,hq,eq⟩:=this.1 ⟨p,hp,e⟩;exact k q hq eq
theorem Ach {R:Int→Int→Prop} {T1 T:List (Int×Nat)} (h:T1.map Prod.fst=T.map Prod.fst) (k:T.Pairwise fun a b=>R a.1 b.1):T1.Pairwise fun a b=>R a.1 b.1:=by
 have e:∀{L:List (Int×Nat)},(L.map Prod.fst).Pairwise R↔L.Pairwise fun a b=>R a.1 b.1:=fun{L}=>List.pairwise_map
 rw[← e]at k ⊢
 rw[h];exact k
theorem Ey.enter (h:Ey nx s) {m:Int} {T1:List (Int×Nat)} (hm:¬s.vis m) (g:Goes nx s m T1):Ey nx (Ld s m T1):=by
 have AaK:upd s.ix m s.n m=s.n:=En
 have hix:∀v,s.vis v→upd s.ix m s.n v=s.ix v:=fun v hv=>upd_ne fun e=>hm (e▸hv)
 have hlow:∀v,s.vis v→upd s.low m s.n v=s.low v:=fun v hv=>upd_ne fun e=>hm (e▸hv)
 have hS:∀v∈s.S++[m],v∈s.S∨v=m:=fun v hv=>by simpa using hv
 have hTS:∀p∈T1,p.1∈s.S:=fun p hp=>by obtain⟨q,hq,e⟩:=U5 g.nm hp;rw[← e];exact h.tS q hq
 have YX:∀p∈T1,s.vis p.1:=fun p hp=>h.sV _ (hTS p hp)
 have V5:m∉s.S:=fun hx=>hm (h.sV _ hx)
 have hoff:∀v,Lc ((m,0)::T1) v→v≠m∧Lc s.T v:=fun v hv=>⟨fun e=>hv (m,0) (by simp) e.symm,(AaJ g.nm).1 fun p hp=>hv p (by simp[hp])⟩
 have htop:∀v∈s.S,∃p,s.T.head?=some p∧True:=fun v hv=>by
  obtain⟨p,hp,_⟩:=h.rt v hv
  cases hT:s.T with
  |nil=>rw[hT]at hp;cases hp
  |cons a r=>exact⟨a,rfl,trivial⟩
 have hhead:∀p,s.T.head?=some p→∀q∈s.T,s.ix q.1≤s.ix p.1:=fun p hp q hq=>by
  have hI:=h.tI
  cases hT:s.T with
  |nil=>rw[hT]at hq;cases hq
  |cons a r=>
   rw[hT]at hp hq hI
   simp only[List.head?_cons,Option.some.injEq]at hp
   subst hp
   rcases List.mem_cons.1 hq with rfl|hq
   ·exact Nat.le_refl _
   ·exact Nat.le_of_lt ((List.pairwise_cons.1 hI).1 q hq)
 refine⟨?_,?_,?_,?_,?_,?_,?_,?_,?_,?_,?_,?_,?_,?_,?_,?_⟩
 ·rintro v (hv|rfl)
  ·show upd s.ix m s.n v<s.n+1
   rw[hix v hv];have:=h.X4 v hv;omega
  ·show upd s.ix v s.n v<s.n+1
   rw[En];omega
 ·rintro v w (hv|rfl) (hw|rfl) e
  ·replace e:upd s.ix m s.n v=upd s.ix m s.n w:=e
   rw[hix v hv,hix w hw]at e;exact h.inj v w hv hw e
  ·replace e:upd s.ix w s.n v=upd s.ix w s.n w:=e
   rw[hix v hv,En]at e;have:=h.X4 v hv;omega
  ·replace e:upd s.ix v s.n v=upd s.ix v s.n w:=e
   rw[hix w hw,En]at e;have:=h.X4 w hw;omega
  ·rfl
 ·intro v hv
  rcases hS v hv with hv|rfl
  ·exact .inl (h.sV v hv)
  ·exact .inr rfl
 ·show(s.S++[m]).Pairwise fun a b=>upd s.ix m s.n a<upd s.ix m s.n b
  rw[List.pairwise_append]
  refine⟨h.sI.imp_of_mem fun ha hb hab=>by rw[hix _ (h.sV _ ha),hix _ (h.sV _ hb)];exact hab,List.pairwise_singleton _ _,fun a ha b hb=>?_⟩
  rw[List.mem_singleton]at hb
  subst hb
  rw[hix a (h.sV a ha),AaK];exact h.X4 a (h.sV a ha)
 ·intro p hp
  show p.1∈s.S++[m]
  rcases List.mem_cons.1 hp with rfl|hp
  ·simp
  ·simp[hTS p hp]
 ·show((m,0)::T1).Pairwise fun a b=>upd s.ix m s.n b.1<upd s.ix m s.n a.1
  refine List.pairwise_cons.2 ⟨fun p hp=>?_,?_⟩
  ·rw[hix _ (YX p hp),AaK];exact h.X4 _ (YX p hp)
  ·have hp:=Ach (R:=fun a b=>s.ix b<s.ix a) g.nm h.tI
   exact hp.imp_of_mem fun ha hb hab=>by rw[hix _ (YX _ ha),hix _ (YX _ hb)];exact hab
 ·intro p hp v hv hle
  replace hle:upd s.ix m s.n p.1≤upd s.ix m s.n v:=hle
  rcases List.mem_cons.1 hp with rfl|hp
  ·rcases hS v hv with hv|rfl
   ·rw[hix v (h.sV v hv)]at hle
    replace hle:upd s.ix m s.n m≤s.ix v:=hle
    rw[AaK]at hle;have:=h.X4 v (h.sV v hv);omega
   ·exact .refl
  ·obtain⟨q,hq,e⟩:=U5 g.nm hp
   have hpS:=hTS p hp
   rcases hS v hv with hv|rfl
   ·rw[hix _ (YX p hp),hix v (h.sV v hv)]at hle
    rw[← e]at hle ⊢;exact h.tR q hq v hv hle
   ·obtain⟨r,hr,_⟩:=htop p.1 hpS
    have h1:=hhead r hr q hq
    have hrm:r∈s.T:=List.mem_of_head? hr
    rw[← e]
    exact .step (h.tR q hq r.1 (h.tS r hrm) h1) (g.top r hr)
 ·intro p hp
  rcases List.mem_cons.1 hp with rfl|hp
  ·exact⟨Nat.zero_le _,fun j w hj=>absurd hj (Nat.not_lt_zero _)⟩
  ·rcases g.old p hp with hq|⟨q,hq,e1,e2,e3⟩
   ·exact⟨(h.tA p hq).1,fun j w hj hw=>.inl ((h.tA p hq).2 j w hj hw)⟩
   ·have hqm:q∈s.T:=List.mem_of_head? hq
    have hk:=h.tA q hqm
    rw[e1]at hk
    have hlt:q.2<(nx p.1).length:=(List.getElem?_eq_some_iff.1 e3).1
    refine⟨by omega,fun j w hj hw=>?_⟩
    by_cases hjq:j<q.2
    ·exact .inl (hk.2 j w hjq hw)
    ·obtain rfl:j=q.2:=by omega
     rw[e3]at hw
     exact .inr (Option.some.inj hw).symm
 ·rintro v hv ho w hw
  obtain⟨o1,o2⟩:=hoff v ho
  rcases hv with hv|hv
  ·exact .inl (h.lf v hv o2 w hw)
  ·exact absurd hv o1
 ·rintro v hv hns w hw
  have YZ:v∉s.S∧v≠m:=⟨fun h=>hns (by show v∈s.S++[m];simp[h]),fun h=>hns (by show v∈s.S++[m];simp[h])⟩
  rcases hv with hv|hv
  ·obtain⟨a,b⟩:=h.pp v hv YZ.1 w hw
   refine⟨.inl a,fun hx=>?_⟩
   rcases hS w hx with hx|rfl
   ·exact b hx
   ·exact hm a
  ·exact absurd hv YZ.2
 ·intro v hv
  show upd s.low m s.n v≤upd s.ix m s.n v∧∃w∈s.S++[m],upd s.ix m s.n w=upd s.low m s.n v∧IY nx v w
  rcases hS v hv with hv|rfl
  ·rw[hlow v (h.sV v hv),hix v (h.sV v hv)]
   obtain⟨a,w,b,c,d⟩:=h.lo v hv
   exact⟨a,w,by simp[b],by rw[hix w (h.sV w b)];exact c,d⟩
  ·rw[En,En]
   exact⟨Nat.le_refl _,v,by simp,En,.refl⟩
 ·intro v hv w hw he hd
  show upd s.low m s.n v≤upd s.ix m s.n w
  rcases hS v hv with hv|rfl
  ·rw[hlow v (h.sV v hv)]
   have hvS:v∈s.S:=hv
   rcases hS w hw with hw|rfl
   ·rw[hix w (h.sV w hw)]
    refine h.le v hv w hw he fun p hp e=>?_
    obtain⟨q,hq,eq⟩:=(MO g.nm).2 ⟨p,hp,e⟩
    obtain⟨j,hj,hjw⟩:=hd q (by show q∈(m,0)::T1;simp[hq]) eq
    rcases g.old q hq with ho|⟨r,hr,a1,a2,a3⟩
    ·have:q=p:=by
       have hI:=h.tI
       refine Classical.byContradiction fun hne=>?_
       have hlt:s.ix q.1≠s.ix p.1:=by
        obtain⟨i1,hi1,rfl⟩:=List.getElem_of_mem ho
        obtain⟨i2,hi2,rfl⟩:=List.getElem_of_mem hp
        rcases Nat.lt_trichotomy i1 i2 with hh|hh|hh
        ·have:=List.pairwise_iff_getElem.1 hI i1 i2 hi1 hi2 hh;omega
        ·subst hh;exact absurd rfl hne
        ·have:=List.pairwise_iff_getElem.1 hI i2 i1 hi2 hi1 hh;omega
       exact hlt (by rw[eq,e])
     subst this
     exact⟨j,hj,hjw⟩
    ·have hrp:r=p:=by
       have hI:=h.tI
       have hrm:r∈s.T:=List.mem_of_head? hr
       refine Classical.byContradiction fun hne=>?_
       have hlt:s.ix r.1≠s.ix p.1:=by
        obtain⟨i1,hi1,rfl⟩:=List.getElem_of_mem hrm
        obtain⟨i2,hi2,rfl⟩:=List.getElem_of_mem hp
        rcases Nat.lt_trichotomy i1 i2 with hh|hh|hh
        ·have:=List.pairwise_iff_getElem.1 hI i1 i2 hi1 hi2 hh;omega
        ·subst hh;exact absurd rfl hne
        ·have:=List.pairwise_iff_getElem.1 hI i2 i1 hi2 hi1 hh;omega
       exact hlt (by rw[a1,eq,e])
     subst hrp
     by_cases hjr:j<r.2
     ·exact⟨j,hjr,hjw⟩
     ·exfalso
      have:j=r.2:=by omega
      subst this
      rw[← eq,a3]at hjw
      have:=Option.some.inj hjw
      subst this
      exact V5 hw
   ·rw[En]
    have:=(h.lo v hvS).1
    have:=h.X4 v (h.sV v hvS)
    omega
  ·obtain⟨j,hj,_⟩:=hd (v,0) (by show(v,0)∈(v,0)::T1;simp) rfl
   exact absurd hj (Nat.not_lt_zero _)
 ·intro v hv ho p hp hlt hmax
  obtain⟨o1,o2⟩:=hoff v ho
  have hv':v∈s.S:=(hS v hv).resolve_right o1
  replace hlt:upd s.ix m s.n p.1<upd s.ix m s.n v:=hlt
  show upd s.low m s.n p.1≤upd s.low m s.n v
  rw[hix v (h.sV v hv')]at hlt
  rcases List.mem_cons.1 hp with rfl|hp
  ·replace hlt:upd s.ix m s.n m<s.ix v:=hlt
   rw[AaK]at hlt;have:=h.X4 v (h.sV v hv');omega
  ·rw[hix _ (YX p hp)]at hlt
   rw[hlow _ (YX p hp),hlow v (h.sV v hv')]
   obtain⟨q,hq,e⟩:=U5 g.nm hp
   rw[← e]at hlt ⊢
   refine h.lc v hv' o2 q hq hlt fun r hr hrl=>?_
   obtain⟨r',hr',e'⟩:=(MO g.nm).2 ⟨r,hr,rfl⟩
   have:=hmax r' (by show r'∈(m,0)::T1;simp[hr']) (by show upd s.ix m s.n r'.1<upd s.ix m s.n v;rw[hix _ (YX r' hr'),hix v (h.sV v hv'),e'];exact hrl)
   replace this:upd s.ix m s.n r'.1≤upd s.ix m s.n p.1:=this
   rw[hix _ (YX r' hr'),hix _ (YX p hp),e',←e]at this
   exact this
 ·intro v hv ho
  obtain⟨o1,o2⟩:=hoff v ho
  have hv':v∈s.S:=(hS v hv).resolve_right o1
  show upd s.low m s.n v<upd s.ix m s.n v
  rw[hlow v (h.sV v hv'),hix v (h.sV v hv')]
  exact h.ll v hv' o2
 ·intro v hv
  rcases hS v hv with hv|rfl
  ·obtain⟨p,hp,hle⟩:=h.rt v hv
   obtain⟨q,hq,e⟩:=(MO g.nm).2 ⟨p,hp,rfl⟩
   refine⟨q,by show q∈(m,0)::T1;simp[hq],?_⟩
   show upd s.ix m s.n q.1≤upd s.ix m s.n v
   rw[hix _ (YX q hq),hix v (h.sV v hv),e];exact hle
  ·exact⟨(v,0),by show(v,0)∈(v,0)::T1;simp,Nat.le_refl _⟩
 ·rintro v hv hns
  have YZ:v∉s.S∧v≠m:=⟨fun h=>hns (by show v∈s.S++[m];simp[h]),fun h=>hns (by show v∈s.S++[m];simp[h])⟩
  rcases hv with hv|hv
  ·exact h.ok v hv YZ.1
  ·exact absurd hv YZ.2
theorem Ey.uniq (h:Ey nx s) {p q:Int×Nat} (hp:p∈s.T) (hq:q∈s.T) (e:p.1=q.1):p=q:=by
 have hI:=h.tI
 refine Classical.byContradiction fun hne=>?_
 have hlt:s.ix p.1≠s.ix q.1:=by
  obtain⟨i1,hi1,rfl⟩:=List.getElem_of_mem hp
  obtain⟨i2,hi2,rfl⟩:=List.getElem_of_mem hq
  rcases Nat.lt_trichotomy i1 i2 with hh|hh|hh
  ·have:=List.pairwise_iff_getElem.1 hI i1 i2 hi1 hi2 hh;omega
  ·subst hh;exact absurd rfl hne
  ·have:=List.pairwise_iff_getElem.1 hI i2 i1 hi2 hi1 hh;omega
 exact hlt (by rw[e])
theorem Ey.below (h:Ey nx s) {t:Int} {k:Nat} {T0:List (Int×Nat)} (hT:s.T=(t,k)::T0) {p:Int×Nat} (hp:p∈T0):s.ix p.1<s.ix t:=by
 have hI:=h.tI
 rw[hT]at hI
 exact(List.pairwise_cons.1 hI).1 p hp
abbrev Qw (s:TJ) (t:Int) (k:Nat) (T0:List (Int×Nat)) (m:Int):TJ:=⟨s.n,s.vis,s.ix,if m∈s.S then upd s.low t (min (s.low t) (s.ix m))else s.low,s.S,(t,k+1)::T0,s.sm⟩
theorem Ey.see (h:Ey nx s) {t m:Int} {k:Nat} {T0:List (Int×Nat)} (hT:s.T=(t,k)::T0) (hk:(nx t)[k]?=some m) (hm:s.vis m):Ey nx (Qw s t k T0 m):=by
 have hmem:∀p,p∈(t,k+1)::T0→p=(t,k+1)∨p∈T0:=fun p hp=>List.mem_cons.1 hp
 have h0:(t,k)∈s.T:=by rw[hT];simp
 have hin:∀p∈T0,p∈s.T:=fun p hp=>by rw[hT];simp[hp]
 have V6:=h.tS _ h0
 have hmk:m∈nx t:=List.mem_of_getElem? hk
 have hoff:∀v,Lc ((t,k+1)::T0) v→Lc s.T v∧v≠t:=fun v hv=>⟨fun p hp e=>by
  rw[hT]at hp
  rcases List.mem_cons.1 hp with rfl|hp
  ·exact hv (t,k+1) (by simp) e
  ·exact hv p (by simp[hp]) e,fun e=>hv (t,k+1) (by simp) e.symm⟩
 have hlow:(Qw s t k T0 m).low=if m∈s.S then upd s.low t (min (s.low t) (s.ix m))else s.low:=rfl
 have hle:∀v,(Qw s t k T0 m).low v≤s.low v:=fun v=>by
  classical
  rw[hlow]
  split
  ·by_cases e:v=t
   ·rw[e,En];omega
   ·rw[upd_ne e];exact Nat.le_refl _
  ·exact Nat.le_refl _
 have hne:∀v,v≠t→(Qw s t k T0 m).low v=s.low v:=fun v e=>by
  classical
  rw[hlow]
  split
  ·rw[upd_ne e]
  ·rfl
 have hbk:∀p∈(t,k+1)::T0,∃q∈s.T,q.1=p.1:=fun p hp=>by
  rcases hmem p hp with rfl|hp
  ·exact⟨_,h0,rfl⟩
  ·exact⟨p,hin p hp,rfl⟩
 have hfw:∀q∈s.T,∃p∈(t,k+1)::T0,p.1=q.1:=fun q hq=>by
  rw[hT]at hq
  rcases List.mem_cons.1 hq with rfl|hq
  ·exact⟨(t,k+1),by simp,rfl⟩
  ·exact⟨q,by simp[hq],rfl⟩
 refine⟨h.X4,h.inj,h.sV,h.sI,?_,?_,?_,?_,?_,h.pp,?_,?_,?_,?_,?_,h.ok⟩
 ·intro p hp
  obtain⟨q,hq,e⟩:=hbk p hp
  rw[← e];exact h.tS q hq
 ·have hI:=h.tI
  rw[hT]at hI
  exact List.pairwise_cons.2 ⟨(List.pairwise_cons.1 hI).1,(List.pairwise_cons.1 hI).2⟩
 ·intro p hp v hv hlt
  obtain⟨q,hq,e⟩:=hbk p hp
  replace hlt:s.ix p.1≤s.ix v:=hlt
  rw[← e]at hlt ⊢;exact h.tR q hq v hv hlt
 ·intro p hp
  rcases hmem p hp with rfl|hp
  ·have hA:=h.tA _ h0
   have hl:k<(nx t).length:=(List.getElem?_eq_some_iff.1 hk).1
   refine⟨hl,fun j w hj hw=>?_⟩
   by_cases hjk:j<k
   ·exact hA.2 j w hjk hw
   ·replace hj:j<k+1:=hj
    obtain rfl:j=k:=by omega
    replace hw:(nx t)[j]?=some w:=hw
    rw[hk]at hw;cases hw;exact hm
  ·exact h.tA p (hin p hp)
 ·intro v hv ho
  exact h.lf v hv (hoff v ho).1
 ·intro v hv
  obtain⟨a,w,b,c,d⟩:=h.lo v hv
  refine⟨Nat.le_trans (hle v) a,?_⟩
  by_cases e:v=t
  ·subst e
   classical
   rw[hlow]
   split
   ·rename_i V5
    rw[En]
    by_cases hc:s.low v≤s.ix m
    ·exact⟨w,b,by show s.ix w=_;rw[c];omega,d⟩
    ·exact⟨m,V5,by show s.ix m=_;omega,.one hmk⟩
   ·exact⟨w,b,c,d⟩
  ·exact⟨w,b,by show s.ix w=_;rw[hne v e];exact c,d⟩
 ·intro v hv w hw he hd
  by_cases e:v=t
  ·subst e
   obtain⟨j,hj,hjw⟩:=hd (v,k+1) (by show(v,k+1)∈(v,k+1)::T0;simp) rfl
   by_cases hjk:j<k
   ·refine Nat.le_trans (hle v) (h.le v hv w hw he fun p hp e=>?_)
    obtain rfl:=h.uniq hp h0 e
    exact⟨j,hjk,hjw⟩
   ·replace hj:j<k+1:=hj
    obtain rfl:j=k:=by omega
    rw[hk]at hjw
    cases hjw
    classical
    rw[hlow,if_pos hw,En]
    exact Nat.min_le_right _ _
  ·rw[hne v e]
   refine h.le v hv w hw he fun p hp ep=>?_
   rw[hT]at hp
   rcases List.mem_cons.1 hp with rfl|hp
   ·exact absurd ep.symm e
   ·exact hd p (by show p∈(t,k+1)::T0;simp[hp]) ep
 ·intro v hv ho p hp hlt hmax
  obtain⟨o1,o2⟩:=hoff v ho
  rw[hne v o2]
  obtain⟨q,hq,e⟩:=hbk p hp
  refine Nat.le_trans (hle p.1) ?_
  rw[← e]at hlt ⊢
  refine h.lc v hv o1 q hq hlt fun r hr hrl=>?_
  obtain⟨r',hr',e'⟩:=hfw r hr
  have:=hmax r' hr' (by rw[e'];exact hrl)
  rw[e',←e]at this
  exact this
 ·intro v hv ho
  obtain⟨o1,o2⟩:=hoff v ho
  rw[hne v o2]
  exact h.ll v hv o1
 ·intro v hv
  obtain⟨p,hp,hl⟩:=h.rt v hv
  obtain⟨q,hq,e⟩:=hfw p hp
  exact⟨q,hq,by show s.ix q.1≤_;rw[e];exact hl⟩
def Aci (low:Int→Nat) (t:Int):List (Int×Nat)→Int→Nat
 |[]=>low
 |p::_=>upd low p.1 (min (low p.1) (low t))
abbrev QO (s:TJ) (t:Int) (T0:List (Int×Nat)):TJ:=⟨s.n,s.vis,s.ix,Aci s.low t T0,s.S,T0,s.sm⟩
theorem Ey.stay (h:Ey nx s) {t:Int} {T0:List (Int×Nat)} (hT:s.T=(t,(nx t).length)::T0) (hl:s.low t<s.ix t):Ey nx (QO s t T0):=by
 have h0:(t,(nx t).length)∈s.T:=by rw[hT];simp
 have hin:∀p∈T0,p∈s.T:=fun p hp=>by rw[hT];simp[hp]
 have V6:=h.tS _ h0
 have hbl:=fun{p:Int×Nat} (hp:p∈T0)=>h.below hT hp
 obtain⟨_,w0,b0,c0,d0⟩:=h.lo t V6
 obtain⟨u,T1,hT0⟩:∃u T1,T0=u::T1:=by
  cases hT0:T0 with
  |nil=>
   obtain⟨p,hp,hle⟩:=h.rt w0 b0
   rw[hT,hT0]at hp
   simp only[List.mem_singleton]at hp
   subst hp
   replace hle:s.ix t≤s.ix w0:=hle
   omega
  |cons u T1=>exact⟨u,T1,rfl⟩
 have hu:u∈T0:=by rw[hT0];simp
 have hut:=hbl hu
 have hlow:(QO s t T0).low=upd s.low u.1 (min (s.low u.1) (s.low t)):=by rw[hT0];rfl
 have hle:∀v,(QO s t T0).low v≤s.low v:=fun v=>by
  rw[hlow]
  by_cases e:v=u.1
  ·rw[e,En];omega
  ·rw[upd_ne e];exact Nat.le_refl _
 have hne:∀v,v≠u.1→(QO s t T0).low v=s.low v:=fun v e=>by rw[hlow,upd_ne e]
 have hlu:(QO s t T0).low u.1≤s.low t:=by rw[hlow,En];exact Nat.min_le_right _ _
 have htu:t≠u.1:=fun e=>by rw[e]at hut;omega
 have htop:∀p∈T0,s.ix p.1≤s.ix u.1:=fun p hp=>by
  have hI:=h.tI
  rw[hT,hT0]at hI
  rw[hT0]at hp
  rcases List.mem_cons.1 hp with rfl|hp
  ·exact Nat.le_refl _
  ·exact Nat.le_of_lt ((List.pairwise_cons.1 (List.pairwise_cons.1 hI).2).1 p hp)
 have hpu:∀p∈T0,s.ix u.1≤s.ix p.1→p.1=u.1:=fun p hp hle=>h.inj _ _ (h.sV _ (h.tS p (hin p hp))) (h.sV _ (h.tS u (hin u hu))) (by have:=htop p hp;omega)
 have hoff:∀v,Lc T0 v→v≠t→Lc s.T v:=fun v hv e p hp ep=>by
  rw[hT]at hp
  rcases List.mem_cons.1 hp with rfl|hp
  ·exact e ep.symm
  ·exact hv p hp ep
 refine⟨h.X4,h.inj,h.sV,h.sI,fun p hp=>h.tS p (hin p hp),?_,fun p hp=>h.tR p (hin p hp),fun p hp=>h.tA p (hin p hp),?_,h.pp,?_,?_,?_,?_,?_,h.ok⟩
 ·have hI:=h.tI
  rw[hT]at hI
  exact(List.pairwise_cons.1 hI).2
 ·intro v hv ho w hw
  by_cases e:v=t
  ·subst e
   obtain⟨j,hj,ej⟩:=List.getElem_of_mem hw
   exact(h.tA _ h0).2 j w hj (by rw[List.getElem?_eq_getElem hj,ej])
  ·exact h.lf v hv (hoff v ho e) w hw
 ·intro v hv
  obtain⟨a,w,b,c,d⟩:=h.lo v hv
  refine⟨Nat.le_trans (hle v) a,?_⟩
  by_cases e:v=u.1
  ·rw[hlow,e,En]
   rw[e]at c d
   by_cases hc:s.low u.1≤s.low t
   ·exact⟨w,b,by show s.ix w=_;rw[c];omega,d⟩
   ·refine⟨w0,b0,by show s.ix w0=_;rw[c0];omega,(h.tR u (hin u hu) t V6 (Nat.le_of_lt hut)).trans d0⟩
  ·exact⟨w,b,by show s.ix w=_;rw[hne v e];exact c,d⟩
 ·intro v hv w hw he hd
  refine Nat.le_trans (hle v) (h.le v hv w hw he fun p hp ep=>?_)
  rw[hT]at hp
  rcases List.mem_cons.1 hp with rfl|hp
  ·replace ep:t=v:=ep
   subst ep
   obtain⟨j,hj,ej⟩:=List.getElem_of_mem he
   exact⟨j,hj,by rw[List.getElem?_eq_getElem hj,ej]⟩
  ·exact hd p hp ep
 ·intro v hv ho p hp hlt hmax
  by_cases e:v=t
  ·subst e
   rw[hne v htu]
   have:=hmax u hu hut
   rw[hpu p hp this]
   exact hlu
  ·have o1:=hoff v ho e
   by_cases ev:v=u.1
   ·exact absurd ev.symm (ho u hu)
   rw[hne v ev]
   by_cases htv:s.ix t<s.ix v
   ·have h1:=hmax u hu (by show s.ix u.1<s.ix v;omega)
    rw[hpu p hp h1]
    refine Nat.le_trans hlu (h.lc v hv o1 _ h0 htv fun q hq _=>?_)
    rw[hT]at hq
    rcases List.mem_cons.1 hq with rfl|hq
    ·exact Nat.le_refl _
    ·exact Nat.le_of_lt (hbl hq)
   ·refine Nat.le_trans (hle p.1) (h.lc v hv o1 p (hin p hp) hlt fun q hq hqv=>?_)
    rw[hT]at hq
    rcases List.mem_cons.1 hq with rfl|hq
    ·exact absurd hqv htv
    ·exact hmax q hq hqv
 ·intro v hv ho
  by_cases e:v=t
  ·subst e;rw[hne v htu];exact hl
  ·by_cases ev:v=u.1
   ·exact absurd ev.symm (ho u hu)
   rw[hne v ev]
   exact h.ll v hv (hoff v ho e)
 ·intro v hv
  obtain⟨p,hp,hle⟩:=h.rt v hv
  rw[hT]at hp
  rcases List.mem_cons.1 hp with rfl|hp
  ·exact⟨u,hu,by show s.ix u.1≤s.ix v;replace hle:s.ix t≤s.ix v:=hle;omega⟩
  ·exact⟨p,hp,hle⟩
end
section
variable {nx:Int→List Int} {s:TJ}
noncomputable abbrev Acj (s:TJ) (t:Int) (C0 S0:List Int) (T0:List (Int×Nat)) (x:Int):TJ:=by
 classical exact{s with S:=S0,T:=T0,sm:=fun v=>if v∈t::C0 then x else s.sm v}
theorem Ey.pop (h:Ey nx s) {t x:Int} {T0:List (Int×Nat)} {S0 C0:List Int} (hT:s.T=(t,(nx t).length)::T0) (hl:s.low t=s.ix t) (hS:s.S=S0++t::C0) (hx:x∈t::C0) (hmin:∀u∈t::C0,x≤u):Ey nx (Acj s t C0 S0 T0 x):=by
 have h0:(t,(nx t).length)∈s.T:=by rw[hT];simp
 have hin:∀p∈T0,p∈s.T:=fun p hp=>by rw[hT];simp[hp]
 have V6:=h.tS _ h0
 have hbl:=fun{p:Int×Nat} (hp:p∈T0)=>h.below hT hp
 have hsI:=h.sI
 rw[hS,List.pairwise_append]at hsI
 obtain⟨hI0,hI1,hI2⟩:=hsI
 have hI3:=List.pairwise_cons.1 hI1
 have hSm:∀v,v∈s.S↔v∈S0∨v∈t::C0:=fun v=>by rw[hS,List.mem_append]
 have lt0:∀v∈S0,s.ix v<s.ix t:=fun v hv=>hI2 v hv t (by simp)
 have geC:∀v∈t::C0,s.ix t≤s.ix v:=fun v hv=>by
  rcases List.mem_cons.1 hv with rfl|hv
  ·exact Nat.le_refl _
  ·exact Nat.le_of_lt (hI3.1 v hv)
 have inC:∀v∈s.S,s.ix t≤s.ix v→v∈t::C0:=fun v hv hle=>((hSm v).1 hv).resolve_left fun k=>by have:=lt0 v k;omega
 have in0:∀v∈s.S,s.ix v<s.ix t→v∈S0:=fun v hv hle=>((hSm v).1 hv).resolve_right fun k=>by have:=geC v k;omega
 have AfF:∀v∈t::C0,v∉S0:=fun v hv k=>by have:=lt0 v k;have:=geC v hv;omega
 have CS:∀v∈t::C0,v∈s.S:=fun v hv=>(hSm v).2 (.inr hv)
 have frT:∀p∈s.T,s.ix t≤s.ix p.1→p=(t,(nx t).length):=fun p hp hle=>by
  rw[hT]at hp
  rcases List.mem_cons.1 hp with e|hp
  ·exact e
  ·have:=hbl hp;omega
 have AcJ:∀v∈C0,Lc s.T v:=fun v hv p hp e=>by
  have h1:=hI3.1 v hv
  have:=frT p hp (by rw[e];omega)
  rw[this]at e
  replace e:t=v:=e
  rw[e]at h1;omega
 have Ad9:∀v∈t::C0,s.ix t≤s.low v:=fun v hv=>by
  rcases List.mem_cons.1 hv with rfl|hv
  ·omega
  ·have:=h.lc v (CS v (by simp[hv])) (AcJ v hv) _ h0 (hI3.1 v hv) fun q hq _=>by
        rw[hT]at hq
        rcases List.mem_cons.1 hq with rfl|hq
        ·exact Nat.le_refl _
        ·exact Nat.le_of_lt (hbl hq)
   replace this:s.low t≤s.low v:=this
   omega
 have AbG:∀v∈t::C0,IY nx t v:=fun v hv=>h.tR _ h0 v (CS v hv) (geC v hv)
 have toT:∀(n:Nat) (v:Int),v∈t::C0→s.ix v≤n→IY nx v t:=by
  intro n
  induction n with
  |zero=>
   intro v hv hn
   have:=geC v hv
   rw[h.inj v t (h.sV v (CS v hv)) (h.sV t V6) (by omega)]
   exact .refl
  |succ n ih=>
   intro v hv hn
   rcases List.mem_cons.1 hv with rfl|X5
   ·exact .refl
   ·obtain⟨_,w,a,b,c⟩:=h.lo v (CS v hv)
    have h1:=h.ll v (CS v hv) (AcJ v X5)
    have h2:=Ad9 v hv
    exact c.trans (ih w (inC w a (by omega)) (by omega))
 have AcK:∀v∈t::C0,∀w∈nx v,s.vis w:=fun v hv w hw=>by
  rcases List.mem_cons.1 hv with rfl|X5
  ·obtain⟨j,hj,ej⟩:=List.getElem_of_mem hw
   exact(h.tA _ h0).2 j w hj (by rw[List.getElem?_eq_getElem hj,ej])
  ·exact h.lf v (h.sV v (CS v hv)) (AcJ v X5) w hw
 have out:∀v∈t::C0,∀w∈nx v,w∈t::C0∨(s.vis w∧w∉s.S):=fun v hv w hw=>by
  by_cases hwS:w∈s.S
  ·refine .inl (inC w hwS ?_)
   have h1:=h.le v (CS v hv) w hwS hw fun p hp e=>by
        have:=frT p hp (by rw[e];exact geC v hv)
        subst this
        replace e:t=v:=e
        subst e
        obtain⟨j,hj,ej⟩:=List.getElem_of_mem hw
        exact⟨j,hj,by rw[List.getElem?_eq_getElem hj,ej]⟩
   have h2:=Ad9 v hv
   omega
  ·exact .inr ⟨AcK v hv w hw,hwS⟩
 have clo:∀{v u:Int},v∈t::C0→IY nx v u→u∈t::C0∨(s.vis u∧u∉s.S):=fun{v u} hv hr=>by
  refine hr.stay (C:=fun u=>u∈t::C0∨(s.vis u∧u∉s.S)) (fun y hy w hw=>?_) (.inl hv)
  rcases hy with hy|⟨a,b⟩
  ·exact out y hy w hw
  ·exact .inr (h.pp y a b w hw)
 have AfG:∀{v u:Int},v∈t::C0→IY nx v u→IY nx u v→u∈t::C0:=fun{v u} hv h1 h2=>by
  rcases clo hv h1 with k|⟨a,b⟩
  ·exact k
  ·have:=h2.stay (C:=fun y=>s.vis y∧y∉s.S) (fun y hy w hw=>h.pp y hy.1 hy.2 w hw) ⟨a,b⟩
   exact absurd (CS v hv) this.2
 have hoff:∀v,Lc T0 v→v≠t→Lc s.T v:=fun v hv e p hp ep=>by
  rw[hT]at hp
  rcases List.mem_cons.1 hp with rfl|hp
  ·exact e ep.symm
  ·exact hv p hp ep
 have ne0:∀v∈S0,v≠t:=fun v hv e=>by have:=lt0 v hv;rw[e]at this;omega
 have S0S:∀v∈S0,v∈s.S:=fun v hv=>(hSm v).2 (.inl hv)
 refine⟨h.X4,h.inj,fun v hv=>h.sV v (S0S v hv),hI0,fun p hp=>in0 _ (h.tS p (hin p hp)) (hbl hp),?_,fun p hp v hv=>h.tR p (hin p hp) v (S0S v hv),fun p hp=>h.tA p (hin p hp),?_,?_,?_,?_,?_,?_,?_,?_⟩
 ·have hI:=h.tI
  rw[hT]at hI
  exact(List.pairwise_cons.1 hI).2
 ·intro v hv ho w hw
  by_cases e:v=t
  ·subst e;exact AcK v (by simp) w hw
  ·exact h.lf v hv (hoff v ho e) w hw
 ·intro v hv hns w hw
  by_cases hvS:v∈s.S
  ·have X5:=((hSm v).1 hvS).resolve_left hns
   refine⟨AcK v X5 w hw,fun k=>?_⟩
   rcases out v X5 w hw with a|⟨_,b⟩
   ·exact AfF w a k
   ·exact b (S0S w k)
  ·have:=h.pp v hv hvS w hw
   exact⟨this.1,fun k=>this.2 (S0S w k)⟩
 ·intro v hv
  obtain⟨a,w,b,c,d⟩:=h.lo v (S0S v hv)
  have:=lt0 v hv
  exact⟨a,w,in0 w b (by omega),c,d⟩
 ·intro v hv w hw he hd
  refine h.le v (S0S v hv) w (S0S w hw) he fun p hp ep=>?_
  rw[hT]at hp
  rcases List.mem_cons.1 hp with rfl|hp
  ·exact absurd ep.symm (ne0 v hv)
  ·exact hd p hp ep
 ·intro v hv ho p hp hlt hmax
  refine h.lc v (S0S v hv) (hoff v ho (ne0 v hv)) p (hin p hp) hlt fun q hq hqv=>?_
  rw[hT]at hq
  rcases List.mem_cons.1 hq with rfl|hq
  ·have:=lt0 v hv
   replace hqv:s.ix t<s.ix v:=hqv
   omega
  ·exact hmax q hq hqv
 ·intro v hv ho
  exact h.ll v (S0S v hv) (hoff v ho (ne0 v hv))
 ·intro v hv
  obtain⟨p,hp,hle⟩:=h.rt v (S0S v hv)
  rw[hT]at hp
  rcases List.mem_cons.1 hp with rfl|hp
  ·have:=lt0 v hv
   replace hle:s.ix t≤s.ix v:=hle
   omega
  ·exact⟨p,hp,hle⟩
 ·intro v hv hns
  classical
  show Least nx v (if v∈t::C0 then x else s.sm v)
  split
  ·rename_i X5
   refine⟨(toT _ v X5 (Nat.le_refl _)).trans (AbG x hx),(toT _ x hx (Nat.le_refl _)).trans (AbG v X5),fun u h1 h2=>hmin u (AfG X5 h1 h2)⟩
  ·rename_i X5
   exact h.ok v hv fun k=>((hSm v).1 k).elim hns X5
theorem Ey.AaY (h:Ey nx s) {t:Int} {u:Int×Nat} {k:Nat} {T1:List (Int×Nat)} (hT:s.T=(t,k)::u::T1) (hl:s.low t=s.ix t):min (s.low u.1) (s.low t)=s.low u.1:=by
 have hu:u∈s.T:=by rw[hT];simp
 have h1:=h.below hT (p:=u) (by simp)
 have h2:=(h.lo u.1 (h.tS u hu)).1
 omega
end
end AI
end Go.Proofs.YtjjhejbffgaabaaGreatDoor
