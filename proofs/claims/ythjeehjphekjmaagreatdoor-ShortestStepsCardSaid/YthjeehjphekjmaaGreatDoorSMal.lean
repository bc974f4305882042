/- The laws ShortestLevels and ShortestTurned, about the evaluator. The law ShortestSteps, about the evaluator. -/
import Derived.Test.YthjeehjphekjmaaGreatDoorSMaj
import Derived.Test.YthjeehjphekjmaaGreatDoorSCk8
set_option linter.unusedVariables false
set_option maxRecDepth 4000
namespace Go.Proofs.YthjeehjphekjmaaGreatDoor
namespace AI
theorem Zi {g:GG} (h:Ej g=0):∀e∈g.edges,EH g e.fr∧EH g e.to:=by
 intro e he
 obtain⟨i,hi,rfl⟩:=List.getElem_of_mem he
 have:=AaG hi ((Y5 h).2.2.2 i hi)
 exact⟨this.2.2.2.1,this.2.2.2.2.1⟩
theorem Qp.FC {g:GG} {types:List (List UInt8)} {dir a x:Int} {k:Nat} (ha:EH g a) (h:Qp (CY types dir g.edges) a x k):FC g types dir a x 0 6=if k≤6 then some k else none:=by
 have hc:(0:Int)≤0∧(0:Int)≤6∧(6:Int)≤6∧EH g a:=⟨by omega,by omega,by omega,ha⟩
 by_cases hk:k≤6
 ·rw[if_pos hk]
  exact Rz hc (by omega) (by omega) h.1 fun j _ hj=>h.2 j hj
 ·rw[if_neg hk]
  exact Qh hc fun j _ hj hw=>h.2 j (by omega) hw
theorem AbS {O:List (Int×Int)} {b:Bool} {n:Int} (hl:O.length<2^62):Au (Ac tab) 22 [.sl b (vs Az O),.int .i64 n] (fun v=>∃r:Int,v=.int .i64 r∧((n,r)∈O∨r=-1∧∀p∈O,p.1≠n)):=by
 refine Af rfl rfl ?_
 (conv=>whnf);repeat' (first  |(refine kA ?_;conv=>whnf)|(refine Br.mk (fun hc=>?_) fun hc=>?_<;>first|exact hc.elim|conv=>whnf)|(refine kB ?_))
 refine Ae (fun m env s=>∃i:Nat,m=O.length-i∧(∀ p∈O.take i,p.1≠n)∧env=[(0,.sl b (vs Az O)),(1,.int .i64 n),(5,.int .i64 i)]∧s=⟨[],0⟩) ?_ _ _ _ ⟨0,rfl,by simp,rfl,rfl⟩
 rintro _ _ _ ⟨i,rfl,hx,rfl,rfl⟩
 refine⟨rfl,?_⟩
 by_cases hlt:i<O.length
 ·by_cases he:(O[i]).1=n
  ·have hm:(n,(O[i]).2)∈O:=by rw[← he];exact List.getElem_mem hlt
   (conv=>whnf);repeat' (first  |(refine kA ?_;conv=>whnf)|(refine Br.mk (fun hc=>?_) fun hc=>?_<;>first|exact hc.elim|conv=>whnf)|(refine kB ?_))
   all_goals first
        |(exfalso;omega)
        |exact⟨_,rfl,.inl hm⟩
  ·(conv=>whnf);repeat' (first  |(refine kA ?_;conv=>whnf)|(refine Br.mk (fun hc=>?_) fun hc=>?_<;>first|exact hc.elim|conv=>whnf)|(refine kB ?_))
   all_goals first
        |(exfalso;omega)
        |exact again.mk ⟨_,by omega,i+1,rfl,fun p hp=>by
          rw[List.take_succ_eq_append_getElem hlt,List.mem_append,List.mem_singleton]at hp
          rcases hp with k|k
          ·exact hx p k
          ·subst k;exact he,rfl,rfl⟩
 ·rw[List.take_of_length_le (by omega)]at hx
  (conv=>whnf);repeat' (first  |(refine kA ?_;conv=>whnf)|(refine Br.mk (fun hc=>?_) fun hc=>?_<;>first|exact hc.elim|conv=>whnf)|(refine kB ?_))
  all_goals first
   |(exfalso;omega)
   |exact⟨-1,rfl,.inr ⟨rfl,hx⟩⟩
theorem AdA {g:GG} (hg:g.ok) (hE:g.edges.length≤100) {types:List (List UInt8)} {tn:Bool} (ht:types.length<2^63) {dir a b:Int}:
 Au (Ac tab) 24 [g.av,.int .i64 a,.int .i64 b,.sl tn (vs .str types),.int .i64 dir] (· =.bool (decide (b∈CY types dir g.edges a))):=by
 obtain⟨_,⟨wn,W,rfl,pW,sW⟩,hp⟩:=(U7 (g:=g) hg hE (types:=types) (tn:=tn) ht (id:=a) (dir:=dir)).Oj
 have hWm:b∈W.map (·.to)↔b∈CY types dir g.edges a:=by unfold CY;exact(pW.map _).mem_iff
 have hWl:W.length≤100:=by
  have h1:=pW.length_eq
  have h2:=@Ii types a dir g.edges
  omega
 rw[decide_eq_decide.2 hWm.symm]
 refine Af rfl rfl ?_
 (conv=>whnf);repeat' (first|(refine Aa hp ?_;rintro _ rfl;conv=>whnf)|(refine kA ?_;conv=>whnf)|(refine Br.mk (fun hc=>?_) fun hc=>?_<;>first|exact hc.elim|conv=>whnf)|(refine kB ?_))
 refine Ae (fun m env s=>∃i c:Nat,m=W.length-i∧(∀ p∈W.take i,p.to≠b)∧env=[(2,.int .i64 b),(11,.sl wn (vs Bc.av W)),(12,.int .i64 i)]∧s=⟨[.arr 0 4 true true [g.av]],c⟩) ?_ _ _ _ ⟨0,_,rfl,by simp,rfl,rfl⟩
 rintro _ _ _ ⟨i,c,rfl,hx,rfl,rfl⟩
 refine⟨rfl,?_⟩
 by_cases hlt:i<W.length
 ·by_cases he:(W[i]).to=b
  ·(conv=>whnf);repeat' (first  |(refine kA ?_;conv=>whnf)|(refine Br.mk (fun hc=>?_) fun hc=>?_<;>first|exact hc.elim|conv=>whnf)|(refine kB ?_))
   all_goals first
        |(exfalso;omega)
        |exact Dk (List.mem_map.2 ⟨_,List.getElem_mem hlt,he⟩)
  ·(conv=>whnf);repeat' (first  |(refine kA ?_;conv=>whnf)|(refine Br.mk (fun hc=>?_) fun hc=>?_<;>first|exact hc.elim|conv=>whnf)|(refine kB ?_))
   all_goals first
        |(exfalso;omega)
        |exact again.mk ⟨_,by omega,i+1,_,rfl,fun p hp=>by
          rw[List.take_succ_eq_append_getElem hlt,List.mem_append,List.mem_singleton]at hp
          rcases hp with k|k
          ·exact hx p k
          ·subst k;exact he,rfl,rfl⟩
 ·rw[List.take_of_length_le (by omega)]at hx
  (conv=>whnf);repeat' (first  |(refine kA ?_;conv=>whnf)|(refine Br.mk (fun hc=>?_) fun hc=>?_<;>first|exact hc.elim|conv=>whnf)|(refine kB ?_))
  all_goals first
   |(exfalso;omega)
   |exact BU (fun k=>by obtain⟨p,hp,e⟩:=List.mem_map.1 k;exact hx p hp e)
section
variable {g:GG} {x:Abh} {O:List (Int×Int)} {bq:Bool}
set_option maxHeartbeats 2000000 in
theorem stI {k:Nat} {i:Nat} {W:List Bc} {wn:Bool} {cl:Bool} {c0:Nat} (YI:O.length≤1000) (hil:i<O.length) (hk:(O[i]).2=k) (hk2:k≤100000) (hWl:W.length≤100) {o2:Obj}
 (hW:∀s∈W,∃j:Nat,j≤k+1∧∀r:Int,((s.to,r)∈O∨r=-1∧∀p∈O,p.1≠s.to)→r=j) {Q:Ak→Env→Ag→Prop}
 (hQ:∀c tl,Q (.exit 2) ([(2,.ref 0 0 0 0),(3,.ref 1 1 0 0),(5,.sl bq (vs Az O)),(8,.int .i64 i),(9,.sl wn (vs Bc.av W)),(10,.bool cl),(11,.int .i64 W.length)]++tl) ⟨[.arr 0 4 true true [g.av],.arr 1 6 true true [x.av],o2],c⟩):
 Run (Ac MH) (.loop l5_0_h l5_0_b) [(2,.ref 0 0 0 0),(3,.ref 1 1 0 0),(5,.sl bq (vs Az O)),(8,.int .i64 i),(9,.sl wn (vs Bc.av W)),(10,.bool cl),(11,.int .i64 0)] ⟨[.arr 0 4 true true [g.av],.arr 1 6 true true [x.av],o2],c0⟩ Q:=by
 refine Ae (fun m env s=>∃t c:Nat,m=W.length-t∧t≤W.length∧env=[(2,.ref 0 0 0 0),(3,.ref 1 1 0 0),(5,.sl bq (vs Az O)),(8,.int .i64 i),(9,.sl wn (vs Bc.av W)),(10,.bool cl),(11,.int .i64 t)]∧s=⟨[.arr 0 4 true true [g.av],.arr 1 6 true true [x.av],o2],c⟩) ?_ _ _ _ ⟨0,c0,rfl,by omega,rfl,rfl⟩
 rintro _ _ _ ⟨t,c,rfl,htl,rfl,rfl⟩
 refine⟨rfl,?_⟩
 by_cases hlt:t<W.length
 ·obtain⟨j,hj,hr⟩:=hW _ (List.getElem_mem hlt)
  obtain⟨_,⟨r,rfl,h1⟩,hp⟩:=(AbS (O:=O) (b:=bq) (n:=(W[t]).to) (by omega)).Oj
  obtain rfl:=hr r h1
  have hp2:=hp.up Le
  (conv=>whnf);repeat' (first|(refine Aa hp2 ?_;rintro _ rfl;conv=>whnf)|(refine kA ?_;conv=>whnf)|(refine Br.mk (fun hc=>?_) fun hc=>?_<;>first|exact hc.elim|conv=>whnf)|(refine kB ?_))
  all_goals first
   |(exfalso;omega)
   |exact again.mk ⟨_,by omega,t+1,_,rfl,by omega,rfl,rfl⟩
 ·obtain rfl:t=W.length:=by omega
  (conv=>whnf);repeat' (first  |(refine kA ?_;conv=>whnf)|(refine Br.mk (fun hc=>?_) fun hc=>?_<;>first|exact hc.elim|conv=>whnf)|(refine kB ?_))
  all_goals first
   |(exfalso;omega)
   |exact hQ _ _
set_option maxHeartbeats 4000000 in
theorem stJ (hg:g.ok) (hE:g.edges.length≤100) (ht:x.types.length<2^63) {k:Nat} {i:Nat} {cl0:Bool} {c0:Nat} (YI:O.length≤1000) (hil:i<O.length) (hk:(O[i]).2=k) (hk2:k≤100000) {o2:Obj} (hsm:∀p∈O,0≤p.2∧p.2≤100000)
 (hgood:cl0=true∨∃j,∃h:j<O.length,(O[j]).2=(k:Int)-1∧(O[i]).1∈CY x.types x.dir g.edges (O[j]).1) {Q:Ak→Env→Ag→Prop}
 (hQ:∀c tl,Q (.exit 4) ([(2,.ref 0 0 0 0),(3,.ref 1 1 0 0),(5,.sl bq (vs Az O)),(8,.int .i64 i),(10,.bool true),(13,.int .i64 O.length)]++tl) ⟨[.arr 0 4 true true [g.av],.arr 1 6 true true [x.av],o2],c⟩):
 Run (Ac MH) (.loop l5_1_h l5_1_b) [(2,.ref 0 0 0 0),(3,.ref 1 1 0 0),(5,.sl bq (vs Az O)),(8,.int .i64 i),(10,.bool cl0),(13,.int .i64 0)] ⟨[.arr 0 4 true true [g.av],.arr 1 6 true true [x.av],o2],c0⟩ Q:=by
 refine Ae (fun m env s=>∃(t c:Nat) (cl:Bool),m=O.length-t∧t≤O.length∧(cl=true∨∃j,t≤j∧∃h:j<O.length,(O[j]).2=(k:Int)-1∧(O[i]).1∈CY x.types x.dir g.edges (O[j]).1)∧env=[(2,.ref 0 0 0 0),(3,.ref 1 1 0 0),(5,.sl bq (vs Az O)),(8,.int .i64 i),(10,.bool cl),(13,.int .i64 t)]∧s=⟨[.arr 0 4 true true [g.av],.arr 1 6 true true [x.av],o2],c⟩) ?_ _ _ _ ⟨0,c0,cl0,rfl,by omega,by
  rcases hgood with h|⟨j,hj⟩
  ·exact .inl h
  ·exact .inr ⟨j,by omega,hj⟩,rfl,rfl⟩
 rintro _ _ _ ⟨t,c,cl,rfl,htl,hgd,rfl,rfl⟩
 refine⟨rfl,?_⟩
 by_cases hlt:t<O.length
 ·have s1:=hsm _ (List.getElem_mem hlt)
  have s2:=hsm _ (List.getElem_mem hil)
  cases cl with
  |true=>
   (conv=>whnf);repeat' (first  |(refine kA ?_;conv=>whnf)|(refine Br.mk (fun hc=>?_) fun hc=>?_<;>first|exact hc.elim|conv=>whnf)|(refine kB ?_))
   all_goals first
        |(exfalso;omega)
        |exact again.mk ⟨_,by omega,t+1,_,true,rfl,by omega,.inl rfl,rfl,rfl⟩
  |false=>
   have hg2:=hgd.resolve_left (by simp)
   have hp:=(AdA (g:=g) hg hE (types:=x.types) (tn:=x.tn) ht (dir:=x.dir) (a:=(O[t]).1) (b:=(O[i]).1)).up Le
   by_cases h1:(O[t]).2=(k:Int)-1
   ·by_cases h2:(O[i]).1∈CY x.types x.dir g.edges (O[t]).1
    ·rw[decide_eq_true h2]at hp
     (conv=>whnf);repeat' (first|(refine Aa hp ?_;rintro _ rfl;conv=>whnf)|(refine kA ?_;conv=>whnf)|(refine Br.mk (fun hc=>?_) fun hc=>?_<;>first|exact hc.elim|conv=>whnf)|(refine kB ?_))
     all_goals first
        |(exfalso;omega)
        |exact again.mk ⟨_,by omega,t+1,_,true,rfl,by omega,.inl rfl,rfl,rfl⟩
    ·rw[decide_eq_false h2]at hp
     (conv=>whnf);repeat' (first|(refine Aa hp ?_;rintro _ rfl;conv=>whnf)|(refine kA ?_;conv=>whnf)|(refine Br.mk (fun hc=>?_) fun hc=>?_<;>first|exact hc.elim|conv=>whnf)|(refine kB ?_))
     all_goals first
        |(exfalso;omega)
        |exact again.mk ⟨_,by omega,t+1,_,false,rfl,by omega,.inr (by
               obtain⟨j,a,b,c,d⟩:=hg2
               refine⟨j,?_,b,c,d⟩
               rcases Nat.eq_or_lt_of_le a with e|e
               ·subst e;exact absurd d h2
               ·exact e),rfl,rfl⟩
   ·(conv=>whnf);repeat' (first  |(refine kA ?_;conv=>whnf)|(refine Br.mk (fun hc=>?_) fun hc=>?_<;>first|exact hc.elim|conv=>whnf)|(refine kB ?_))
    all_goals first
     |(exfalso;omega)
     |exact again.mk ⟨_,by omega,t+1,_,false,rfl,by omega,.inr (by
         obtain⟨j,a,b,c,d⟩:=hg2
         refine⟨j,?_,b,c,d⟩
         rcases Nat.eq_or_lt_of_le a with e|e
         ·subst e;exact absurd c h1
         ·exact e),rfl,rfl⟩
 ·obtain rfl:t=O.length:=by omega
  have hcl:cl=true:=hgd.elim id fun⟨j,a,b,_⟩=>by omega
  subst hcl
  (conv=>whnf);repeat' (first  |(refine kA ?_;conv=>whnf)|(refine Br.mk (fun hc=>?_) fun hc=>?_<;>first|exact hc.elim|conv=>whnf)|(refine kB ?_))
  all_goals first
   |(exfalso;omega)
   |exact hQ _ _
end
set_option maxRecDepth 10000 in
set_option maxHeartbeats 8000000 in
theorem UL:∀xs,likes Tryz.prog [25,28] xs→AQ (Ac MH) 5 xs ⟨[],0⟩ fun out _=>out=.ok (.bool true):=by
 intro xs h
 match xs,h with
 |[y,z],h=>
  obtain⟨h1,h2,_⟩:=h
  obtain⟨g,rfl,hg,hf⟩:=JQ h1
  obtain⟨x,rfl,i1,i2,i3,i4,i5,hT⟩:=PS h2
  have pf:=(AcX hg).up Le
  have hln:=hT
  unfold Ln at hln
  refine Ar rfl rfl ?_
  by_cases hfew:g.nodes.length≤40∧g.edges.length≤60
  case neg=>
   rw[decide_eq_false hfew]at pf
   (conv=>whnf);repeat' (first|((first|refine Aa pf ?_|refine Aa D6 ?_);rintro _ rfl;conv=>whnf)|(refine kA ?_;conv=>whnf)|(refine Br.mk (fun hc=>?_) fun hc=>?_<;>first|exact hc.elim|conv=>whnf)|(refine kB ?_))
   all_goals first|rfl|(exfalso;omega)
  rw[decide_eq_true hfew]at pf
  obtain⟨gN,gE⟩:=hfew
  by_cases h20:x.types.length>20
  ·(conv=>whnf);repeat' (first|((first|refine Aa pf ?_|refine Aa D6 ?_);rintro _ rfl;conv=>whnf)|(refine kA ?_;conv=>whnf)|(refine Br.mk (fun hc=>?_) fun hc=>?_<;>first|exact hc.elim|conv=>whnf)|(refine kB ?_))
   all_goals first|rfl|(exfalso;omega)
  have pc:=(Zl hg).up Le
  by_cases Ib:Ej g=0
  case neg=>
   (conv=>whnf);repeat' (first|((first|refine Aa pf ?_|refine Aa pc ?_|refine Aa D6 ?_);rintro _ rfl;conv=>whnf)|(refine kA ?_;conv=>whnf)|(refine Br.mk (fun hc=>?_) fun hc=>?_<;>first|exact hc.elim|conv=>whnf)|(refine kB ?_))
   all_goals first|rfl|(exfalso;omega)
  rw[Ib]at pc
  by_cases hd1:x.dir<1
  ·(conv=>whnf);repeat' (first|((first|refine Aa pf ?_|refine Aa pc ?_|refine Aa D6 ?_);rintro _ rfl;conv=>whnf)|(refine kA ?_;conv=>whnf)|(refine Br.mk (fun hc=>?_) fun hc=>?_<;>first|exact hc.elim|conv=>whnf)|(refine kB ?_))
   all_goals first|rfl|(exfalso;omega)
  by_cases hd2:x.dir>3
  ·(conv=>whnf);repeat' (first|((first|refine Aa pf ?_|refine Aa pc ?_|refine Aa D6 ?_);rintro _ rfl;conv=>whnf)|(refine kA ?_;conv=>whnf)|(refine Br.mk (fun hc=>?_) fun hc=>?_<;>first|exact hc.elim|conv=>whnf)|(refine kB ?_))
   all_goals first|rfl|(exfalso;omega)
  have qok:(DQ.mk g x.fr x.tn x.types x.dir).ok:=⟨hg,hf,by show g.nodes.length<2^62;omega,by show g.edges.length≤100;omega,hln⟩
  have dX:=Zh qok
  unfold DQ.enc at dX
  dsimp only at dX
  obtain⟨_,⟨nd,rfl⟩,q1⟩:=(TK (g:=g) (by omega) (id:=x.fr)).Oj
  by_cases ha:EH g x.fr
  case neg=>
   rw[decide_eq_false ha]at q1
   have r1:=q1.up Le
   have hout:(DQ.mk g x.fr x.tn x.types x.dir).out=.sl false []:=by unfold DQ.out;rw[if_neg ha]
   rw[hout]at dX
   (conv=>whnf);repeat' (first|((first|refine Aa pf ?_|refine Aa pc ?_|refine Aa dX ?_|refine Aa r1 ?_|refine Aa D6 ?_);rintro _ rfl;conv=>whnf)|(refine kA ?_;conv=>whnf)|(refine Br.mk (fun hc=>?_) fun hc=>?_<;>first|exact hc.elim|conv=>whnf)|(refine kB ?_))
   all_goals first|rfl|(exfalso;omega)|exact absurd rfl (by assumption)
  rw[decide_eq_true ha]at q1
  have r1:=q1.up Le
  obtain⟨_,⟨b3,O,_,hO1,_⟩,_⟩:=(AeN (g:=g) hg (by omega) (by omega) (types:=x.types) (tn:=x.tn) hln (dir:=x.dir) (a:=x.fr)).Oj
  have hD:=hO1 ha
  have hout:(DQ.mk g x.fr x.tn x.types x.dir).out=.sl true (vs Az O):=by
   unfold DQ.out
   rw[if_pos ha]
   rw[show dsO (DQ.mk g x.fr x.tn x.types x.dir).nb (DQ.mk g x.fr x.tn x.types x.dir).a=O from SQ hD]
  rw[hout]at dX
  have hU:∀j y,W (CY x.types x.dir g.edges) x.fr j y→y∈g.nodes.map GN.id:=fun j y hy=>by
   cases j with
   |zero=>rw[(EU _).1 hy];exact ha
   |succ j=>
    obtain⟨z,_,hz⟩:=(Dw _).1 hy
    obtain⟨e,he,_,h⟩:=IJ.1 hz
    have:=Zi Ib e he
    rcases h with h|h
    ·rw[← h.2.2];exact this.2
    ·rw[← h.2.2];exact this.1
  have hsm:∀p∈O,∃k:Nat,p.2=k∧k<40∧k<g.nodes.length∧Qp (CY x.types x.dir g.edges) x.fr p.1 k:=fun p hp=>by
   obtain⟨k,e,hk⟩:=(hD.mem p).1 hp
   have:=hk.Adh hU
   rw[List.length_map]at this
   exact⟨k,e,by omega,this,hk⟩
  have YI:O.length≤1000:=by
   have:=List.Nodup.length_le_of_subset (l₁:=O.map (·.1)) (l₂:=g.nodes.map GN.id) (List.pairwise_map.2 (hD.inc.imp fun h=>by omega)) fun y hy=>by
     obtain⟨p,hp,rfl⟩:=List.mem_map.1 hy
     obtain⟨k,_,_,_,hk⟩:=hsm p hp
     exact hU k _ hk.1
   rw[List.length_map,List.length_map]at this
   omega
  have hval:∀y (j:Nat),Qp (CY x.types x.dir g.edges) x.fr y j→∀r:Int,((y,r)∈O∨r=-1∧∀p∈O,p.1≠y)→r=j:=fun y j hy r hr=>by
   have hm:(y,(j:Int))∈O:=(hD.mem _).2 ⟨j,rfl,hy⟩
   rcases hr with hr|hr
   ·obtain⟨k,e,_,_,hk⟩:=hsm _ hr
    replace e:r=k:=e
    rw[e,hy.unique _ hk]
   ·exact absurd rfl (hr.2 _ hm)
  obtain⟨_,⟨r0,rfl,hr0⟩,q2⟩:=(AbS (O:=O) (b:=true) (n:=x.fr) (by omega)).Oj
  have AgP:r0=0:=hval x.fr 0 ⟨(EU _).2 rfl,fun j hj=>absurd hj (by omega)⟩ r0 hr0
  subst AgP
  have r2:=q2.up Le
  clear q1 q2 hr0 hout hO1 qok
  (conv=>whnf);repeat' (first|((first|refine Aa pf ?_|refine Aa pc ?_|refine Aa dX ?_|refine Aa r1 ?_|refine Aa r2 ?_);rintro _ rfl;conv=>whnf)|(refine kA ?_;conv=>whnf)|(refine Br.mk (fun hc=>?_) fun hc=>?_<;>first|exact hc.elim|conv=>whnf)|(refine kB ?_))
  all_goals first|(exfalso;omega)|exact absurd rfl (by assumption)|skip
  clear pf pc dX r1 r2
  refine Ae (fun m env s=>∃(i c:Nat),m=O.length-i∧i≤O.length∧env=[(2,.ref 0 0 0 0),(3,.ref 1 1 0 0),(5,.sl true (vs Az O)),(8,.int .i64 i)]∧s=⟨[.arr 0 4 true true [g.av],.arr 1 6 true true [x.av],.arr 2 3 true true [nd.av]],c⟩) ?_ _ _ _ ⟨0,_,rfl,by omega,rfl,rfl⟩
  rintro _ _ _ ⟨i,c,rfl,Ah7,rfl,rfl⟩
  refine⟨rfl,?_⟩
  by_cases hil:i<O.length
  ·obtain⟨k,hk,Ah8,hkn,hkD⟩:=hsm _ (List.getElem_mem hil)
   obtain⟨_,⟨wn,WW,rfl,pW,sW⟩,q1⟩:=(U7 (g:=g) hg (by omega) (types:=x.types) (tn:=x.tn) hln (id:=(O[i]).1) (dir:=x.dir)).Oj
   have r1:=q1.up Le
   have hWl:WW.length≤100:=by
     have h1:=pW.length_eq
     have h2:=@Ii x.types (O[i]).1 x.dir g.edges
     omega
   have hWW:∀s∈WW,∃j:Nat,j≤k+1∧∀r:Int,((s.to,r)∈O∨r=-1∧∀p∈O,p.1≠s.to)→r=j:=fun s hs=>by
     have hn:s.to∈CY x.types x.dir g.edges (O[i]).1:=List.mem_map.2 ⟨s,pW.mem_iff.1 hs,rfl⟩
     obtain⟨j,hj,hjD⟩:=(show W (CY x.types x.dir g.edges) x.fr (k+1) s.to from(Dw _).2 ⟨_,hkD.1,hn⟩).dist
     exact⟨j,hj,hval s.to j hjD⟩
   have hgood:(decide ((k:Int)=0))=true∨∃j,∃h:j<O.length,(O[j]).2=(k:Int)-1∧(O[i]).1∈CY x.types x.dir g.edges (O[j]).1:=by
     cases k with
     |zero=>exact .inl rfl
     |succ k0=>
      obtain⟨y,hy,hyn⟩:=hkD.pred
      obtain⟨j,hj,e⟩:=List.getElem_of_mem ((hD.mem (y,(k0:Int))).2 ⟨k0,rfl,hy⟩)
      exact .inr ⟨j,hj,by rw[e];show(k0:Int)=_;omega,by rw[e];exact hyn⟩
   have Afk:∀p∈O,0≤p.2∧p.2≤100000:=fun p hp=>by obtain⟨k,e,h,_⟩:=hsm p hp;omega
   have pD:=(UF (g:=g) hg hf (by omega) (by omega) (types:=x.types) (tn:=x.tn) hln (dir:=x.dir) (a:=x.fr) (b:=(O[i]).1) (lo:=0) (hi:=6)).up Le
   rw[hkD.FC ha]at pD
   have hinc:0<i→∀h:i-1<O.length,(O[i-1]).1<(O[i]).1:=fun h0 h=>List.pairwise_iff_getElem.1 hD.inc (i-1) i h hil (by omega)
   have hst:∀(cl:Bool) (c0:Nat) (Q:Ak→Env→Ag→Prop),(∀ c tl,Q (.exit 2) ([(2,.ref 0 0 0 0),(3,.ref 1 1 0 0),(5,.sl true (vs Az O)),(8,.int .i64 i),(9,.sl wn (vs Bc.av WW)),(10,.bool cl),(11,.int .i64 WW.length)]++tl) ⟨[.arr 0 4 true true [g.av],.arr 1 6 true true [x.av],.arr 2 3 true true [nd.av]],c⟩)→Run (Ac MH) (.loop l5_0_h l5_0_b) [(2,.ref 0 0 0 0),(3,.ref 1 1 0 0),(5,.sl true (vs Az O)),(8,.int .i64 i),(9,.sl wn (vs Bc.av WW)),(10,.bool cl),(11,.int .i64 0)] ⟨[.arr 0 4 true true [g.av],.arr 1 6 true true [x.av],.arr 2 3 true true [nd.av]],c0⟩ Q:=fun cl c0 Q hQ=>stI YI hil hk (by omega) hWl hWW hQ
   (conv=>whnf);repeat' (first|(refine Aa r1 ?_;rintro _ rfl;conv=>whnf)|(refine kA ?_;conv=>whnf)|(refine Br.mk (fun hc=>?_) fun hc=>?_<;>first|exact hc.elim|conv=>whnf)|(refine kB ?_))
   all_goals first|(exfalso;omega)|skip
   all_goals (
     refine hst _ _ _ fun c1 tl1=>?_
     (conv=>whnf);repeat' (first  |(refine kA ?_;conv=>whnf)|(refine Br.mk (fun hc=>?_) fun hc=>?_<;>first|exact hc.elim|conv=>whnf)|(refine kB ?_))
     refine stJ hg (by omega) hln YI hil hk (by omega) Afk (by first|exact .inl rfl|exact hgood|(rcases hgood with h|h<;>first|exact absurd (of_decide_eq_true h) (by omega)|exact .inr h)) fun c2 tl2=>?_)
   all_goals have ei:((i:Nat):Int)-1=((i-1:Nat):Int)∨i=0:=by omega
   all_goals by_cases h6:k≤6
   all_goals first|rw[if_pos h6]at pD|rw[if_neg h6]at pD
   all_goals unfold UG at pD
   all_goals dsimp only at pD
   all_goals clear hst hWW hval hsm hU r1 q1 Afk hgood
   all_goals (
     (conv=>whnf);repeat' (first|(refine Aa pD ?_;rintro _ rfl;conv=>whnf)|(apply AU;(· rw[ei.resolve_right (by omega)];exact nVN (by omega));conv=>whnf)|(refine kA ?_;conv=>whnf)|(refine Br.mk (fun hc=>?_) fun hc=>?_<;>first|exact hc.elim|conv=>whnf)|(refine kB ?_)))
   all_goals first
     |(exfalso;omega)
     |exact again.mk ⟨_,by omega,i+1,_,rfl,by omega,rfl,rfl⟩
     |(exfalso;have:=hinc (by omega) (by omega);omega)
     |exact absurd rfl (by assumption)
  ·obtain rfl:i=O.length:=by omega
   (conv=>whnf);repeat' (first|(refine Aa D6 ?_;rintro _ rfl;conv=>whnf)|(refine kA ?_;conv=>whnf)|(refine Br.mk (fun hc=>?_) fun hc=>?_<;>first|exact hc.elim|conv=>whnf)|(refine kB ?_))
   all_goals first|rfl|(exfalso;omega)
end AI
end Go.Proofs.YthjeehjphekjmaaGreatDoor
