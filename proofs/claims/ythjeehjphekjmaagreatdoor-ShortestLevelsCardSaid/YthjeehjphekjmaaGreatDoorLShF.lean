/- Distances of all nodes: the reference's. -/
import Derived.Test.YthjeehjphekjmaaGreatDoorLMag
set_option linter.unusedVariables false
set_option maxRecDepth 4000
namespace Go.Proofs.YthjeehjphekjmaaGreatDoor
namespace AI
theorem Xh {α:Type} {f:α→AV} {L:List α} {a n:Nat} {K:List AV→Prop} (h:K (vs f ((L.drop a).take n))):eqK (sub (vs f L) a n) K:=Bh (Vz L a n) h
set_option maxHeartbeats 2000000 in
theorem ZL {L:List (Int×Int)} {x:Int×Int} {nn:Bool} (hl:L.length≤100000):
 Au (Ac tab) 39 [.sl nn (vs Az L),Az x] (fun v=>∃k,k≤L.length∧(∀ y∈L.take k,y.1<x.1)∧(∀ y,L[k]?=some y→x.1≤y.1)∧v=.sl true (vs Az (L.take k++x::L.drop k))):=by
 refine Af rfl rfl ?_
 (conv=>whnf);repeat' (first  |(refine kA ?_;conv=>whnf)|(refine Br.mk (fun hc=>?_) fun hc=>?_<;>first|exact hc.elim|conv=>whnf)|(refine kB ?_))
 refine Ae (fun m env s=>∃(i c:Nat),m=L.length-i∧i≤L.length∧(∀ y∈L.take i,y.1<x.1)∧env=[(0,.sl nn (vs Az L)),(3,.ref 0 0 0 0),(5,.int .i64 i)]∧s=⟨[.arr 0 2 true true [Az x]],c⟩) ?_ _ _ _ ⟨0,_,rfl,by omega,by simp,rfl,rfl⟩
 rintro _ _ _ ⟨i,c,rfl,hi,hy,rfl,rfl⟩
 refine⟨rfl,?_⟩
 by_cases hgo:∃h:i<L.length,(L[i]).1<x.1
 ·obtain⟨hlt,hlx⟩:=hgo
  (conv=>whnf);repeat' (first  |(refine kA ?_;conv=>whnf)|(refine Br.mk (fun hc=>?_) fun hc=>?_<;>first|exact hc.elim|conv=>whnf)|(refine kB ?_))
  all_goals first
   |(exfalso;omega)
   |exact again.mk ⟨_,by omega,i+1,_,rfl,by omega,fun y hy'=>by
     rw[List.take_succ_eq_append_getElem hlt,List.mem_append,List.mem_singleton]at hy'
     rcases hy' with k|k
     ·exact hy y k
     ·subst k;exact hlx,rfl,rfl⟩
 ·have fin:(∀ y,L[i]?=some y→x.1≤y.1):=fun y hy'=>by
   obtain⟨h,e⟩:=List.getElem?_eq_some_iff.1 hy'
   subst e
   rcases Int.lt_or_le (L[i]).1 x.1 with k|k
   ·exact absurd ⟨h,k⟩ hgo
   ·exact k
  have hlt2:¬∃h:i<L.length,(L[i]).1<x.1:=hgo
  by_cases hlt:i<L.length
  ·have hlx:¬(L[i]).1<x.1:=fun k=>hgo ⟨hlt,k⟩
   clear hgo hlt2
   (conv=>whnf);repeat' (first|(refine need.mk (Hq Bd L) ?_;conv=>whnf)|(refine Xh (f:=Az) (L:=L) ?_;conv=>whnf)|(refine AaJ (f:=Az) (l:=[]) (l':=L.take i) (by simp) Bd rfl (by simp;omega) ?_;conv=>whnf)|(refine Kz (f:=Az) (l:=[]++L.take i) (x:=x) Bd (by simp) (by simp;omega) ?_;conv=>whnf)|(refine AaJ (f:=Az) (l:=([]++L.take i)++[x]) (l':=L.drop i) (by simp;rw[List.take_of_length_le (by simp)]) Bd (by simp) (by simp;omega) ?_;conv=>whnf)|(refine kA ?_;conv=>whnf)|(refine Br.mk (fun hc=>?_) fun hc=>?_<;>first|exact hc.elim|conv=>whnf)|(refine kB ?_))
   all_goals first
        |(exfalso;omega)
        |(refine ⟨i,hi,hy,fin,?_⟩;rw[← List.length_append,uV];simp;done)
  ·clear hgo hlt2
   (conv=>whnf);repeat' (first|(refine need.mk (Hq Bd L) ?_;conv=>whnf)|(refine Xh (f:=Az) (L:=L) ?_;conv=>whnf)|(refine AaJ (f:=Az) (l:=[]) (l':=L.take i) (by simp) Bd rfl (by simp;omega) ?_;conv=>whnf)|(refine Kz (f:=Az) (l:=[]++L.take i) (x:=x) Bd (by simp) (by simp;omega) ?_;conv=>whnf)|(refine AaJ (f:=Az) (l:=([]++L.take i)++[x]) (l':=L.drop i) (by simp;rw[List.take_of_length_le (by simp)]) Bd (by simp) (by simp;omega) ?_;conv=>whnf)|(refine kA ?_;conv=>whnf)|(refine Br.mk (fun hc=>?_) fun hc=>?_<;>first|exact hc.elim|conv=>whnf)|(refine kB ?_))
   all_goals first
        |(exfalso;omega)
        |(refine ⟨i,hi,hy,fin,?_⟩;rw[← List.length_append,uV];simp;done)
def pz (p:Int×Nat):Int×Int:=(p.1,p.2)
structure Qe (seen:List (Int×Nat)) (O:List (Int×Int)):Prop where
 inc:O.Pairwise fun p q=>p.1<q.1
 mem:∀p,p∈O↔p∈seen.map pz
theorem Qe.ins {seen:List (Int×Nat)} {O:List (Int×Int)} (h:Qe seen O) {x:Int} {d k:Nat} (hx:x∉seen.map (·.1)) (h1:∀y∈O.take k,y.1<x) (h2:∀y,O[k]?=some y→x≤y.1):Qe (seen++[(x,d)]) (O.take k++pz (x,d)::O.drop k) where
 inc:=by
  have hne:∀y∈O,y.1≠x:=fun y hy e=>by
    obtain⟨p,hp,rfl⟩:=List.mem_map.1 ((h.mem y).1 hy)
    exact hx (List.mem_map.2 ⟨p,hp,e⟩)
  refine List.pairwise_append.2 ⟨h.inc.sublist (List.take_sublist _ _),List.pairwise_cons.2 ⟨fun y hy=>?_,h.inc.sublist (List.drop_sublist _ _)⟩,fun y hy z hz=>?_⟩
  ·have hyO:=(List.drop_subset k O) hy
   obtain⟨j,hj,rfl⟩:=List.getElem_of_mem hy
   rw[List.getElem_drop]at*
   rw[List.length_drop]at hj
   have hk:k<O.length:=by omega
   have a:=h2 _ (List.getElem?_eq_getElem hk)
   have b:=hne _ (List.getElem_mem (l:=O) (n:=k+j) (by omega))
   show x<(O[k+j]).1
   rcases Nat.eq_zero_or_pos j with e|e
   ·subst e
    have a':x≤(O[k+0]).1:=a
    omega
   ·have c:=List.pairwise_iff_getElem.1 h.inc k (k+j) hk (by omega) (by omega)
    omega
  ·have a:=h1 y hy
   rcases List.mem_cons.1 hz with rfl|hz
   ·exact a
   ·obtain⟨i,hi,rfl⟩:=List.getElem_of_mem hy
    obtain⟨j,hj,rfl⟩:=List.getElem_of_mem hz
    rw[List.getElem_take,List.getElem_drop]
    rw[List.length_take]at hi
    rw[List.length_drop]at hj
    exact List.pairwise_iff_getElem.1 h.inc i (k+j) (by omega) (by omega) (by omega)
 mem p:=by
  rw[List.mem_append,List.mem_cons,List.map_append,List.mem_append]
  have:p∈O↔p∈O.take k∨p∈O.drop k:=by
     conv=>lhs;rw[← List.take_append_drop k O]
     rw[List.mem_append]
  rw[← h.mem,this]
  simp only[List.map_cons,List.map_nil,List.mem_singleton]
  constructor
  ·rintro(k|k|k)<;>simp[k]
  ·rintro((k|k)|k)<;>simp[k]
section
variable {types:List (List UInt8)} {dir:Int} {E:List GE}
theorem QA.few {a:Int} {d:Nat} {seen:List (Int×Nat)} {level:List Int} (h:QA (CY types dir E) a d seen level):seen.length≤1+2*E.length:=by
 have:=List.Nodup.length_le_of_subset h.nd (l₂:=a::Ll E) fun x hx=>by
  obtain⟨p,hp,rfl⟩:=List.mem_map.1 hx
  have hw:=(h.ok p hp).2.1
  cases hk:p.2 with
  |zero=>rw[hk,EU]at hw;simp[hw]
  |succ k=>
   rw[hk]at hw
   obtain⟨y,_,hy⟩:=(Dw _).1 hw
   exact List.mem_cons_of_mem _ (GY hy)
 rw[List.length_map,List.length_cons,GX]at this
 omega
theorem QA.Ri {a:Int} {d:Nat} {seen:List (Int×Nat)} {level:List Int} (h:QA (CY types dir E) a d seen level):level.length≤1+2*E.length:=by
 have h1:=Lm h.inc (U:=seen.map (·.1)) fun x hx=>List.mem_map.2 ⟨_,(h.lv x).1 hx,rfl⟩
 have h2:=h.few
 rw[List.length_map]at h1
 omega
def Zg (seen:List (Int×Nat)) (level:List Int):Nat:=2*(1000-seen.length)+(if level=[]then 0 else 1)
theorem QA.less {a:Int} {d:Nat} {seen:List (Int×Nat)} {level:List Int} (h:QA (CY types dir E) a d seen level) (hE:E.length≤100) (hne:level≠[]):Zg (seen++(fresh seen (nextL (CY types dir E) level)).map fun x=>(x,d)) (fresh seen (nextL (CY types dir E) level))<Zg seen level:=by
 have h1:=h.few
 have h2:=(h.step).few
 unfold Zg
 rw[List.length_append,List.length_map]at*
 rw[if_neg hne]
 split
 ·rename_i e;rw[e]at h2 ⊢;simp at h2 ⊢
 ·rename_i e
  have:0<(fresh seen (nextL (CY types dir E) level)).length:=List.length_pos_iff.2 e
  omega
end
theorem PO {seen:List (Int×Nat)} {N:List Int} {j:Nat} (h:j<N.length):fresh seen (N.take (j+1))=fresh seen (N.take j)++if N[j]∈seen.map (·.1)then[]else[N[j]]:=by
 unfold fresh
 rw[List.take_succ_eq_append_getElem h,List.filter_append]
 congr 1
 simp only[List.filter_cons,List.filter_nil]
 by_cases hc:N[j]∈seen.map (·.1)
 ·rw[if_pos hc,if_neg (by simp[hc])]
 ·rw[if_neg hc,if_pos (by simp[hc])]
structure DsO (nb:Int→List Int) (a:Int) (O:List (Int×Int)):Prop where
 inc:O.Pairwise fun p q=>p.1<q.1
 mem:∀p:Int×Int,p∈O↔∃k:Nat,p.2=k∧Qp nb a p.1 k
theorem Qe.ds {nb:Int→List Int} {a:Int} {d:Nat} {seen:List (Int×Nat)} {O:List (Int×Int)} (h:Qe seen O) (hb:QA nb a d seen []):DsO nb a O where
 inc:=h.inc
 mem p:=by
  rw[h.mem,List.mem_map]
  constructor
  ·rintro⟨q,hq,rfl⟩;exact⟨q.2,rfl,(hb.done nb _ _).1 hq⟩
  ·rintro⟨k,e,hk⟩;exact⟨(p.1,k),(hb.done nb _ _).2 hk,by unfold pz;rw[← e]⟩
theorem DsO.unique {nb:Int→List Int} {a:Int} {O O':List (Int×Int)} (h:DsO nb a O) (k:DsO nb a O'):O=O':=by
 have hm:∀p,p∈O↔p∈O':=fun p=>(h.mem p).trans (k.mem p).symm
 have hi:=h.inc
 have ki:=k.inc
 clear h k
 induction O generalizing O' with
 |nil=>cases O' with
  |nil=>rfl
  |cons b m=>exact absurd ((hm b).2 (by simp)) (by simp)
 |cons a l ih=>cases O' with
  |nil=>exact absurd ((hm a).1 (by simp)) (by simp)
  |cons b m=>
   have k1:=List.pairwise_cons.1 hi
   have k2:=List.pairwise_cons.1 ki
   have hab:a=b:=by
        rcases List.mem_cons.1 ((hm a).1 (by simp))with e|e
        ·exact e
        rcases List.mem_cons.1 ((hm b).2 (by simp))with e2|e2
        ·exact e2.symm
        have:=k1.1 b e2;have:=k2.1 a e;omega
   subst hab
   rw[ih (fun x=>?_) k1.2 k2.2]
   have hx:=hm x
   simp only[List.mem_cons]at hx
   constructor
   ·intro hl
    rcases hx.1 (.inr hl)with e|e
    ·subst e;exact absurd (k1.1 x hl) (by omega)
    ·exact e
   ·intro hl
    rcases hx.2 (.inr hl)with e|e
    ·subst e;exact absurd (k2.1 x hl) (by omega)
    ·exact e
set_option maxHeartbeats 2000000 in
theorem AgJ {g:GG} {types:List (List UInt8)} {tn:Bool} {dir a:Int} {nd:AV} {d:Nat} {seen:List (Int×Nat)} {N:List Int} {nb0:Bool} (hs:seen.length≤1000) (hN:Inc N) (hNl:N.length≤1000) (hd:d≤100000) {g0 c0 n0:Nat} {g1:Nat} {ob:Bool} {O:List (Int×Int)} (hO:Qe seen O) (hn0:n0=seen.length) {fo:Bool} {Q:Ak→Env→Ag→Prop}
 (hQ:∀g0' n0' g1' n1 f1 ob' O' c' tl,n0'=(seen++(fresh seen N).map fun x=>(x,d)).length→n1=(fresh seen N).length→Qe (seen++(fresh seen N).map fun x=>(x,d)) O'→Q (.exit 2) ([(2,.sl tn (vs .str types)),(3,.int .i64 dir),(4,.ref 0 0 0 0),(11,.own 2 g0' 0 n0'),(12,.own 3 g1' 0 n1),(13,.sl ob' (vs Az O')),(14,.int .i64 d),(15,.sl nb0 (vi N)),(16,.int .i64 N.length)]++tl) ⟨[.arr 0 4 true true [g.av],.arr 1 3 true true [nd],.arr g0' 1 true true (vi ((seen++(fresh seen N).map fun x=>(x,d)).map (·.1))),.arr g1' 1 f1 true (vi (fresh seen N))],c'⟩):
 Run (Ac tab) (.loop l14_0_h l14_0_b) [(2,.sl tn (vs .str types)),(3,.int .i64 dir),(4,.ref 0 0 0 0),(11,.own 2 g0 0 n0),(12,.own 3 g1 0 0),(13,.sl ob (vs Az O)),(14,.int .i64 d),(15,.sl nb0 (vi N)),(16,.int .i64 0)] ⟨[.arr 0 4 true true [g.av],.arr 1 3 true true [nd],.arr g0 1 true true (vi (seen.map (·.1))),.arr g1 1 fo true []],c0⟩ Q:=by
 refine Ae (fun m env s=>∃(i g0 n0 g1 n1 c:Nat) (f1 ob:Bool) (F:List Int) (S:List (Int×Nat)) (O:List (Int×Int)),m=N.length-i∧i≤N.length∧F=fresh seen (N.take i)∧F.length≤i∧S=seen++F.map (fun x=>(x,d))∧n0=S.length∧n1=F.length∧Qe S O∧env=[(2,.sl tn (vs .str types)),(3,.int .i64 dir),(4,.ref 0 0 0 0),(11,.own 2 g0 0 n0),(12,.own 3 g1 0 n1),(13,.sl ob (vs Az O)),(14,.int .i64 d),(15,.sl nb0 (vi N)),(16,.int .i64 i)]∧s=⟨[.arr 0 4 true true [g.av],.arr 1 3 true true [nd],.arr g0 1 true true (vi (S.map (·.1))),.arr g1 1 f1 true (vi F)],c⟩) ?_ _ _ _ ⟨0,g0,n0,g1,0,c0,fo,ob,[],seen,O,rfl,by omega,rfl,by simp,by simp,hn0,rfl,hO,rfl,rfl⟩
 rintro _ _ _ ⟨i,g0,n0,g1,n1,c,f1,ob,F,S,O,rfl,hi,hF,hFl,hS,hn0,hn1,hO,rfl,rfl⟩
 refine⟨rfl,?_⟩
 have hSl:S.length≤2000:=by rw[hS,List.length_append,List.length_map];omega
 have hkl:(S.map (·.1)).length=S.length:=List.length_map ..
 by_cases hlt:i<N.length
 ·have hfs:=PO (seen:=seen) hlt
  rw[← hF]at hfs
  have hiff:N[i]∈S.map (·.1)↔N[i]∈seen.map (·.1):=by
   rw[hS,List.map_append,List.mem_append]
   constructor
   ·rintro(k|k)
    ·exact k
    ·exfalso
     rw[List.map_map]at k
     obtain⟨x,hx,e⟩:=List.mem_map.1 k
     replace e:x=N[i]:=e
     rw[hF]at hx
     have hx2:=(List.mem_filter.1 hx).1
     obtain⟨j,hj,e2⟩:=List.getElem_of_mem hx2
     rw[List.length_take]at hj
     rw[List.getElem_take]at e2
     have:=List.pairwise_iff_getElem.1 hN j i (by omega) hlt (by omega)
     omega
   ·exact .inl
  have hp:=AgL (l:=S.map (·.1)) (x:=N[i]) (nn:=true) (by omega)
  have AgM:sub (vi (S.map (·.1))) 0 n0=vi (S.map (·.1)):=by unfold sub;exact List.take_of_length_le (by simp;omega)
  rw[← AgM]at hp
  by_cases hm:N[i]∈seen.map (·.1)
  ·rw[decide_eq_true (hiff.2 hm)]at hp
   rw[if_pos hm,List.append_nil]at hfs
   (conv=>whnf);repeat' (first|(refine Aa hp ?_;rintro _ rfl;conv=>whnf)|(refine kA ?_;conv=>whnf)|(refine Br.mk (fun hc=>?_) fun hc=>?_<;>first|exact hc.elim|conv=>whnf)|(refine kB ?_))
   all_goals first
        |(exfalso;omega)
        |exact again.mk ⟨_,by omega,i+1,_,_,_,_,_,_,_,F,S,O,rfl,by omega,hfs.symm,by omega,hS,hn0,hn1,hO,rfl,rfl⟩
  ·have hnm:N[i]∉S.map (·.1):=fun k=>hm (hiff.1 k)
   rw[decide_eq_false hnm]at hp
   rw[if_neg hm]at hfs
   have YI:O.length≤3000:=by
        have:=List.Nodup.length_le_of_subset (l₁:=O) (l₂:=S.map pz) (hO.inc.imp fun h e=>by rw[e]at h;omega) fun p hp=>(hO.mem p).1 hp
        rw[List.length_map]at this;omega
   obtain⟨_,⟨k,hk,h1,h2,rfl⟩,hq⟩:=(ZL (L:=O) (x:=pz (N[i],d)) (nn:=ob) (by omega)).Oj
   have hO':=hO.ins (x:=N[i]) (d:=d) (k:=k) hnm h1 h2
   have hb8:((S.map (·.1)).length+1)*8≤2^46:=by rw[hkl];omega
   have e1:(S++[(N[i],d)]).map (·.1)=S.map (·.1)++[N[i]]:=by simp
   (conv=>whnf);repeat' (first|((first|refine Aa hp ?_|refine Aa hq ?_);rintro _ rfl;conv=>whnf)|(refine Kz (f:=.int .i64) (l:=S.map (·.1)) (x:=N[i]) Bl (hn0.trans hkl.symm) hb8 ?_;conv=>whnf)|(refine Kz (f:=.int .i64) (l:=F) (x:=N[i]) Bl hn1 (by omega) ?_;conv=>whnf)|(refine kA ?_;conv=>whnf)|(refine Br.mk (fun hc=>?_) fun hc=>?_<;>first|exact hc.elim|conv=>whnf)|(refine kB ?_))
   all_goals first
        |(exfalso;omega)
        |exact again.mk ⟨_,by omega,i+1,_,_,_,_,_,_,_,F++[N[i]],S++[(N[i],d)],_,rfl,by omega,hfs.symm,by simp;omega,by rw[hS];simp,by simp,by simp,hO',rfl,by rw[e1]⟩
 ·rw[List.take_of_length_le (by omega)]at hF
  obtain rfl:i=N.length:=by omega
  subst hF hS
  (conv=>whnf);repeat' (first  |(refine kA ?_;conv=>whnf)|(refine Br.mk (fun hc=>?_) fun hc=>?_<;>first|exact hc.elim|conv=>whnf)|(refine kB ?_))
  all_goals first
   |(exfalso;omega)
   |exact hQ _ _ _ _ _ _ _ _ _ hn0 hn1 hO
set_option maxHeartbeats 2000000 in
theorem AeN {g:GG} (hg:g.ok) (hl:g.nodes.length<2^62) (hE:g.edges.length≤100) {types:List (List UInt8)} {tn:Bool} (ht:types.length<2^63) {dir a:Int}:
 Au (Ac tab) 14 [g.av,.int .i64 a,.sl tn (vs .str types),.int .i64 dir] (fun v=>∃b O,v=.sl b (vs Az O)∧(EH g a→DsO (CY types dir g.edges) a O)∧(¬ EH g a→O=[])):=by
 obtain⟨_,⟨nd,rfl⟩,p1⟩:=(TK hl (id:=a)).Oj
 by_cases hn:EH g a
 case neg=>
  rw[decide_eq_false hn]at p1
  refine Af rfl rfl ?_
  (conv=>whnf);repeat' (first|(refine Aa p1 ?_;rintro _ rfl;conv=>whnf)|(refine kA ?_;conv=>whnf)|(refine Br.mk (fun hc=>?_) fun hc=>?_<;>first|exact hc.elim|conv=>whnf)|(refine kB ?_))
  all_goals first
   |exact⟨_,[],rfl,fun k=>absurd k hn,fun _=>rfl⟩
 rw[decide_eq_true hn]at p1
 refine Af rfl rfl ?_
 (conv=>whnf);repeat' (first|(refine Aa p1 ?_;rintro _ rfl;conv=>whnf)|(refine kA ?_;conv=>whnf)|(refine Br.mk (fun hc=>?_) fun hc=>?_<;>first|exact hc.elim|conv=>whnf)|(refine kB ?_))
 refine Ae (fun m env s=>∃(d g0 n0 c:Nat) (lb ob:Bool) (seen:List (Int×Nat)) (level:List Int) (O:List (Int×Int)),m=Zg seen level∧((level≠[]→d≤seen.length)∧d≤seen.length+1)∧QA (CY types dir g.edges) a d seen level∧Qe seen O∧n0=seen.length∧env=[(2,.sl tn (vs .str types)),(3,.int .i64 dir),(4,.ref 0 0 0 0),(11,.own 2 g0 0 n0),(12,.sl lb (vi level)),(13,.sl ob (vs Az O)),(14,.int .i64 d)]∧s=⟨[.arr 0 4 true true [g.av],.arr 1 3 true true [nd.av],.arr g0 1 true true (vi (seen.map (·.1)))],c⟩) ?_ _ _ _ ⟨1,_,_,_,true,true,[(a,0)],[a],[(a,0)],rfl,⟨fun _=>by simp,by simp⟩,QA.start _ a,⟨List.pairwise_singleton _ _,fun p=>by simp[pz]⟩,rfl,rfl,rfl⟩
 rintro _ _ _ ⟨d,g0,n0,c,lb,ob,seen,level,O,rfl,hds,hB,hO,hn0,rfl,rfl⟩
 refine⟨rfl,?_⟩
 have hsl:=hB.few
 have hll:=hB.Ri
 by_cases he:level=[]
 ·subst he
  (conv=>whnf);repeat' (first  |(refine kA ?_;conv=>whnf)|(refine Br.mk (fun hc=>?_) fun hc=>?_<;>first|exact hc.elim|conv=>whnf)|(refine kB ?_))
  all_goals first
   |(exfalso;simp at *;omega)
   |exact⟨_,O,rfl,fun _=>hO.ds hB,fun k=>absurd hn k⟩
 ·have hpos:0<level.length:=List.length_pos_iff.2 he
  obtain⟨_,⟨b,rfl⟩,hp⟩:=(Yc (g:=g) hg hE (types:=types) (tn:=tn) ht (dir:=dir) (l:=level) (nn:=lb) (by omega)).Oj
  have hNi:Inc (nextL (CY types dir g.edges) level):=Kv
  have hNl:(nextL (CY types dir g.edges) level).length≤1000:=by
   have:=Lm hNi (U:=Ll g.edges) fun x hx=>by
        obtain⟨y,_,h⟩:=(Ih _).1 hx
        exact GY h
   rw[GX]at this
   omega
  have hless:=hB.less hE he
  have hst:=hB.step
  have hst2:=hst.few
  (conv=>whnf);repeat' (first|(refine Aa hp ?_;rintro _ rfl;conv=>whnf)|(refine kA ?_;conv=>whnf)|(refine Br.mk (fun hc=>?_) fun hc=>?_<;>first|exact hc.elim|conv=>whnf)|(refine kB ?_))
  all_goals first|(exfalso;omega)|skip
  refine AgJ (a:=a) (d:=d) (by omega) hNi hNl (by omega) hO hn0 fun g0' n0' g1' n1 f1 ob' O' c' tl h1 h2 h3=>?_
  have hd1:=hds.1 he
  have hd2:fresh seen (nextL (CY types dir g.edges) level)≠[]→d+1≤(seen++(fresh seen (nextL (CY types dir g.edges) level)).map fun x=>(x,d)).length:=fun k=>by
   have:=List.length_pos_iff.2 k
   rw[List.length_append,List.length_map];omega
  have hd3:d+1≤(seen++(fresh seen (nextL (CY types dir g.edges) level)).map fun x=>(x,d)).length+1:=by rw[List.length_append];omega
  generalize hF:fresh seen (nextL (CY types dir g.edges) level)=F at*
  generalize hS:(seen++F.map fun x=>(x,d))=S at*
  (conv=>whnf);repeat' (first  |(refine kA ?_;conv=>whnf)|(refine Br.mk (fun hc=>?_) fun hc=>?_<;>first|exact hc.elim|conv=>whnf)|(refine kB ?_))
  all_goals first
   |(exfalso;omega)
   |(rw [h2,uV];exact again.mk ⟨_,hless,d+1,_,_,_,_,_,S,F,O',rfl,⟨hd2,hd3⟩,hst,h3,h1,rfl,rfl⟩)
   |exact again.mk ⟨_,hless,d+1,_,_,_,_,_,S,F,O',rfl,⟨hd2,hd3⟩,hst,h3,h1,rfl,rfl⟩
end AI
end Go.Proofs.YthjeehjphekjmaaGreatDoor
