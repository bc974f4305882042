/- component.Strong. Increasing lists of the reference: with. The reference's validity of values: it answers. The reference's validity of values, with lists in lists. The reference's bare values and strings. The reference's check of values that may be stored, of labels and properties. The reference's Check of a graph. -/
import Derived.Test.YtjjhejbffgaabaaGreatDoorMaj
import Derived.Test.YtjjhejbffgaabaaGreatDoorMae
import Derived.Test.YtjjhejbffgaabaaGreatDoorMaf
import Derived.Test.YtjjhejbffgaabaaGreatDoorMaa
import Derived.Test.YtjjhejbffgaabaaGreatDoorMag
set_option linter.unusedVariables false
set_option maxRecDepth 4000
namespace Go.Proofs.YtjjhejbffgaabaaGreatDoor
namespace AI
section
variable {G:GS} {Df:List (AV×AV)} {cn:Bool} {nx:Int→List Int} {ids:List Int} {lo:Nat} {σ0 σ σ':List Obj} {s:TJ} {BM Bc DK:List (Int×Int)} {stk:AV} {Dy:List (Int×Bool)} {F:List Nat}
theorem VE.keep (h:VE G Df cn nx ids lo σ0 σ s BM Bc stk Dy DK) (hlo:6<lo) (f:HY σ σ' F) (hF:∀o∈F,σ.length≤o):VE G Df cn nx ids lo σ0 σ' s BM Bc stk Dy DK:=by
 have hn:=h.ln
 refine⟨h.hs.keep f (fun o ho=>by have:=hF o ho;omega),fun o ho hl=>(f.eq o (by omega) (fun hm=>by have:=hF o hm;omega)).trans (h.fl o ho hl),Nat.le_trans hn f.len,h.ab,h.tj,h.sT,h.sS,?_,h.vi⟩
 refine h.sk.keep f fun o ho=>?_
 rcases h.sk with⟨e,_⟩|⟨q,g,J,_,e,h2⟩
 ·right;rw[e];simp[AV.obj]
 ·right;rw[e];intro hc
  simp only[AV.obj,List.mem_singleton]at hc
  subst hc
  have:=Dh h2;have:=hF o ho;omega
theorem VE.start (h:HS G Df cn σ [] [] (.sl false []) [] []) {ix low:Int→Nat} {sm:Int→Int}:VE G Df cn nx ids σ.length σ σ ⟨0,fun _=>False,ix,low,[],[],sm⟩ [] [] (.sl false []) [] []:=
 ⟨h,fun _ _ _=>rfl,Nat.le_refl _,.start,.none,rfl,rfl,.inl ⟨rfl,rfl⟩,fun _ h=>h.elim⟩
theorem VE.ixl (h:VE G Df cn nx ids lo σ0 σ s BM Bc stk Dy DK):BM.length≤ids.length:=by
 have:=JM (R:=BM.map (·.1)) (W:=ids) (show (BM.map (·.1)).Nodup from h.ab.ixN) fun v hv=>h.vi v (Classical.byContradiction fun hc=>I8.1 (h.ab.ix0 v hc) hv)
 simpa using this
theorem VE.all (h:VE G Df cn nx ids lo σ0 σ s BM Bc stk Dy DK) {v:Int} (hv:s.vis v):∃x,Ba DK v=some x∧Least nx v x:=
 ⟨s.sm v,h.ab.sm v hv (by rw[h.sS];simp),h.tj.ok v hv (by rw[h.sS];simp)⟩
end
theorem X3 (es:List (Int×Int)) (v:Int):(Il es v).length≤es.length:=by
 unfold Il;rw[List.length_map];exact List.length_filter_le _ _
set_option maxHeartbeats 16000000 in
theorem Xw {types:List (List UInt8)} {tn:Bool} (hl:types.length<2^63) {g:GG} (hg:g.ok) (hN:g.nodes.length≤10000) (hE:g.edges.length≤10000):
 Ar (Ae tab) 12 [g.av,.sl tn (vs .str types)] (fun v=>∃b l,v=.sl b (vs pv l)∧(Bg g≠0→l=[])∧(Bg g=0→Gq (AL g) (BH types g) l)):=by
 have pc:=TB hg
 by_cases hck:Bg g=0
 case neg=>
  refine Ad rfl rfl ?_
  (conv=>whnf);repeat' (first|(refine Aa pc ?_;rintro _ rfl;conv=>whnf)|(refine kA ?_;conv=>whnf)|(refine Br.mk (fun hc=>?_) fun hc=>?_<;>first|exact hc.elim|conv=>whnf)|(refine kB ?_))
  all_goals first|exact absurd ‹_› hck|exact⟨false,[],rfl,fun _=>rfl,fun h=>absurd h hck⟩
 have Dx:=IY hck
 have hnd:=PY hck
 have hil:=CO g
 have hes:∀e∈BH types g,e.1∈AL g∧e.2∈AL g:=fun e he=>by
  obtain⟨x,hx,rfl⟩:=List.mem_map.1 he
  exact Dx x (List.mem_filter.1 hx).1
 have hEl:(CG types g).length≤g.edges.length:=List.length_filter_le _ _
 have AiU:(BH types g).length=(CG types g).length:=by simp[BH]
 obtain⟨_,⟨be,rfl⟩,pe⟩:=(WM (types:=types) (tn:=tn) hl hg (by omega)).Ob
 rw[hck]at pc
 refine Ad rfl rfl ?_
 (conv=>whnf);repeat' (first|((first|refine Aa pc ?_|refine Aa pe ?_);rintro _ rfl;conv=>whnf)|(refine kA ?_;conv=>whnf)|(refine Br.mk (fun hc=>?_) fun hc=>?_<;>first|exact hc.elim|conv=>whnf)|(refine kB ?_))
 all_goals first|(exfalso;omega)|skip
 refine Ah (fun m env s=>∃(i c:Nat) (σ:List Obj) (Df:List (Int×AV)) (cn:Bool),m=(CG types g).length-i∧i≤(CG types g).length∧HS ⟨1,2,3,4,5,6⟩ (P8 Df) cn σ [] [] (.sl false []) [] []∧nth σ 0=some (.arr 0 4 true true [g.av])∧X4 Df σ (Il ((BH types g).take i))∧env=[(2,.ref 0 0 0 0),(5,.ref 6 6 0 0),(27,.sl be (vs GE.av (CG types g))),(28,.int .i64 (CG types g).length),(29,.int .i64 i)]∧s=⟨σ,c⟩) ?_ _ _ _ ⟨0,_,_,[],_,rfl,by omega,⟨rfl,rfl,rfl,rfl,rfl,rfl⟩,rfl,.start,rfl,rfl⟩
 rintro _ _ _ ⟨i,c,σ,Df,cn,rfl,hi,hS,h00,hB,rfl,rfl⟩
 refine⟨rfl,?_⟩
 have h6l:=Dh hS.h6
 by_cases hlt:i<(CG types g).length
 ·have hEt:(BH types g).take (i+1)=(BH types g).take i++[(((CG types g)[i]).fr,((CG types g)[i]).to)]:=by
   rw[List.take_succ_eq_append_getElem (by omega)];simp[BH]
  rcases hB.pt ((CG types g)[i]).fr with⟨hno,hnil⟩|⟨o,gq,hno,hoq,ho6⟩
  ·(conv=>whnf);repeat' (first|(refine MO fun σ1 f1 k1 l1=>?_;have hS:=hS.keep f1 (by simp);conv=>whnf)|(rw [k1];conv=>whnf)|(refine I4 k1 fun σ2 f2 k1 l2=>?_;have hS:=hS.keep f2 (by simp;omega);conv=>whnf)|(rw [hS.h6];conv=>whnf)|(rw [hS.h1];conv=>whnf)|(refine AbE hno ?_;conv=>whnf)|(refine need.mk IE ?_;conv=>whnf)|(refine need.mk KH ?_;conv=>whnf)|(refine Ad2 ?_;conv=>whnf)|(refine kA ?_;conv=>whnf)|(refine Br.mk (fun hc=>?_) fun hc=>?_<;>first|exact hc.elim|conv=>whnf)|(refine kB ?_))
   all_goals first|(exfalso;omega)|skip
   dsimp only[push,List.isEmpty_cons,List.length_singleton]
   obtain⟨σ3,hσ3⟩:∃σ3,σ3=σ2++[Obj.arr (c+1) 1 (!false) true [.int .i64 ((CG types g)[i]).to]]:=⟨_,rfl⟩
   rw[← hσ3]
   have f3:HY σ2 σ3 []:=by rw[hσ3];exact⟨by simp,fun o ho _=>Qi ho⟩
   have q3:nth σ3 σ2.length=some (.arr (c+1) 1 true true (vs (.int .i64) [((CG types g)[i]).to])):=by rw[hσ3];exact Om
   replace hS:=hS.keep f3 (by simp)
   have k3:=f3.get k1 (by simp)
   have ff:=(f1.trans f2).trans f3
   have hne:σ.length≠σ2.length:=by rw[l2,l1];exact Nat.ne_of_lt (Nat.lt_succ_self _)
   have hge:σ.length≤σ2.length:=by rw[l2,l1];exact Nat.le_succ _
   have h6:6<σ2.length:=by omega
   conv=>whnf
   (conv=>whnf);repeat' (first|(rw [k3];conv=>whnf)|(rw [hS.h6];conv=>whnf)|(rw [hS.h1];conv=>whnf)|(refine need.mk IE ?_;conv=>whnf)|(refine need.mk KH ?_;conv=>whnf)|(refine Ad2 ?_;conv=>whnf)|(refine hS.Afv fun σ4 hS4 f4 l4=>?_;have Ad3:=f4.get (ff.get h00 (by simp;omega)) (by simp);have k4:=f4.get k3 (by simp;omega);conv=>whnf)|(rw [k4];conv=>whnf)|(rw [hS4.h6];conv=>whnf)|(refine kA ?_;conv=>whnf)|(refine Br.mk (fun hc=>?_) fun hc=>?_<;>first|exact hc.elim|conv=>whnf)|(refine kB ?_))
   all_goals first
        |(exfalso;omega)
        |exact again.mk ⟨_,by omega,i+1,_,_,_,_,rfl,by omega,hS4,Ad3,(by rw[hEt];exact hB.new hno (ff.trans f4) (by simp) hge h6 (f4.get q3 (by simp;omega))),rfl,rfl⟩
  ·have hol:=Dh hoq
   have hnl:(Il ((BH types g).take i) ((CG types g)[i]).fr).length≤10000:=Nat.le_trans (X3 _ _) (by rw[List.length_take];omega)
   (conv=>whnf);repeat' (first|(refine MO fun σ1 f1 k1 l1=>?_;have hS:=hS.keep f1 (by simp);conv=>whnf)|(rw [k1];conv=>whnf)|(refine I4 k1 fun σ2 f2 k1 l2=>?_;have hS:=hS.keep f2 (by simp;omega);have hoq:=f2.get (f1.get hoq (by simp)) (by simp;omega);have ff:=f1.trans f2;conv=>whnf)|(rw [hoq];conv=>whnf)|(rw [hS.h6];conv=>whnf)|(rw [hS.h1];conv=>whnf)|(refine fkA hno (fun _=>?_);conv=>whnf)|(refine LG (f:=.int .i64) (l:=Il ((BH types g).take i) ((CG types g)[i]).fr) (x:=((CG types g)[i]).to) (fun _=>rfl) rfl (by omega) ?_;conv=>whnf)|(refine I4 hoq fun σ3 f3 hoq l3=>?_;have hS:=hS.keep f3 (by simp;omega);have k1:=f3.get k1 (by simp;omega);conv=>whnf)|(refine need.mk IE ?_;conv=>whnf)|(refine need.mk KH ?_;conv=>whnf)|(refine Ad2 ?_;conv=>whnf)|(refine hS.Afv fun σ4 hS4 f4 l4=>?_;have Ad3:=f4.get (f3.get (ff.get h00 (by simp;omega)) (by simp;omega)) (by simp);have k4:=f4.get k1 (by simp;omega);conv=>whnf)|(rw [k4];conv=>whnf)|(rw [hS4.h6];conv=>whnf)|(refine kA ?_;conv=>whnf)|(refine Br.mk (fun hc=>?_) fun hc=>?_<;>first|exact hc.elim|conv=>whnf)|(refine kB ?_))
   all_goals first
        |(exfalso;omega)
        |(refine again.mk ⟨_,?_,i+1,_,_,_,_,rfl,?_,hS4,Ad3,?_,rfl,rfl⟩
          ·omega
          ·omega
          ·rw[hEt]
           exact hB.more hno ((ff.trans f3).trans f4) (by intro p hp;simp at hp;omega) ho6 (f4.get hoq (by simp;omega)) rfl)
 have hie:i=(CG types g).length:=by omega
 subst hie
 rw[List.take_of_length_le (by omega)]at hB
 (conv=>whnf);repeat' (first|(refine MO fun σ1 f1 k1 l1=>?_;have hS:=hS.keep f1 (by simp);have hB:=hB.keep f1 (by simp);have h00:=f1.get h00 (by simp);conv=>whnf)|(rw [h00];conv=>whnf)|(refine kA ?_;conv=>whnf)|(refine Br.mk (fun hc=>?_) fun hc=>?_<;>first|exact hc.elim|conv=>whnf)|(refine kB ?_))
 all_goals first|(exfalso;omega)|skip
 replace l1:σ1.length=σ.length+1:=l1
 replace k1:nth σ1 σ.length=some (.arr c 2 false true []):=k1
 have hlo:6<σ1.length:=by omega
 have hnx:=hB.toS
 have hBn:∀v,(Il (BH types g) v).length≤10000:=fun v=>Nat.le_trans (X3 _ _) (by omega)
 have hcl:∀v,∀w∈Il (BH types g) v,w∈AL g:=fun v w hw=>(hes _ (KQ.1 hw)).2
 have hqo:σ.length<σ1.length:=by omega
 have hq6:6<σ.length:=h6l
 clear hlt hi hB f1 l1 h6l pe pc
 generalize σ.length=q0 at k1 hqo hq6
 refine Ah (fun m env s=>∃(i c1:Nat) (σ2:List Obj) (s1:TJ) (BM Bc:List (Int×Int)) (stk:AV) (Dy:List (Int×Bool)) (DK:List (Int×Int)),m=g.nodes.length-i∧i≤g.nodes.length∧VE ⟨1,2,3,4,5,6⟩ (P8 Df) cn (Il (BH types g)) (AL g) σ1.length σ1 σ2 s1 BM Bc stk Dy DK∧(∀ v∈(AL g).take i,s1.vis v)∧env=[(2,.ref 0 0 0 0),(5,.ref 6 6 0 0),(8,.own q0 c 0 0),(52,.sl g.nn (vs GN.av g.nodes)),(53,.int .i64 g.nodes.length),(54,.int .i64 i)]∧s=⟨σ2,c1⟩) ?_ _ _ _ ⟨0,_,σ1,_,_,_,_,_,_,rfl,by omega,VE.start (ix:=fun _=>0) (low:=fun _=>0) (sm:=fun _=>0) hS,by simp,rfl,rfl⟩
 clear hS
 rintro _ _ _ ⟨i,c1,σ2,s1,BM,Bc,stk,Dy,DK,rfl,hi,hV,Acn,rfl,rfl⟩
 refine⟨rfl,?_⟩
 by_cases hlt:i<g.nodes.length
 ·have hid:(g.nodes[i]).id∈AL g:=List.mem_map_of_mem (List.getElem_mem hlt)
  have htk:=F6 hlt
  have hV0:=hV
  have hS:=hV.hs
  have hl2:=hV.ln
  have Ac1:∀{s2:TJ},s2.vis (g.nodes[i]).id→(∀ v,s1.vis v→s2.vis v)→∀v∈(AL g).take (i+1),s2.vis v:=fun a b v hv=>by
   rw[htk,List.mem_append,List.mem_singleton]at hv
   rcases hv with hv|rfl
   ·exact b v (Acn v hv)
   ·exact a
  by_cases hv:s1.vis (g.nodes[i]).id
  ·have hix:=hV.ab.ix _ hv
   (conv=>whnf);repeat' (first|(refine MO fun σ3 f3 k3 l3=>?_;have hS:=hS.keep f3 (by simp);conv=>whnf)|(rw [k3];conv=>whnf)|(refine I4 k3 fun σ4 f4 k3 l4=>?_;have hS:=hS.keep f4 (by simp;omega);have hV:=hV.keep hlo (f3.trans f4) (by simp);conv=>whnf)|(rw [hS.h6];conv=>whnf)|(rw [hS.h2];conv=>whnf)|(refine TD hix (fun _=>?_);conv=>whnf)|(refine kA ?_;conv=>whnf)|(refine Br.mk (fun hc=>?_) fun hc=>?_<;>first|exact hc.elim|conv=>whnf)|(refine kB ?_))
   all_goals first
        |(exfalso;omega)
        |exact again.mk ⟨_,by omega,i+1,_,_,_,_,_,_,_,_,rfl,by omega,hV,Ac1 hv (fun _ h=>h),rfl,rfl⟩
  ·have hix:=hV.ab.ix0 _ hv
   have AiV:=hV.ixl
   (conv=>whnf);repeat' (first|(refine MO fun σ3 f3 k3 l3=>?_;have hS:=hS.keep f3 (by simp);conv=>whnf)|(rw [k3];conv=>whnf)|(refine I4 k3 fun σ4 f4 k3 l4=>?_;have hS:=hS.keep f4 (by simp;omega);have hV:=hV.keep hlo (f3.trans f4) (by simp);conv=>whnf)|(rw [hS.h6];conv=>whnf)|(rw [hS.h2];conv=>whnf)|(refine fkZ hix ?_;conv=>whnf)|(refine (Adj (B:=10000) hlo hnd (by omega) hBn (by omega) hnx hcl (by omega) hV hv hid).mono ?_;rintro _ _ ⟨σ5,c5,s2,AiW,Ah3,Agl,AbI,AbJ,rfl,rfl,hV2,hv2,hv3⟩;conv=>whnf)|(refine kA ?_;conv=>whnf)|(refine Br.mk (fun hc=>?_) fun hc=>?_<;>first|exact hc.elim|conv=>whnf)|(refine kB ?_))
   all_goals first
        |(exfalso;omega)
        |exact again.mk ⟨_,by omega,i+1,_,_,_,_,_,_,_,_,rfl,by omega,hV2,Ac1 hv2 hv3,rfl,rfl⟩
 have hie:i=g.nodes.length:=by omega
 subst hie
 rw[List.take_of_length_le (by omega)]at Acn
 have hS:=hV.hs
 have h02:nth σ2 0=some (.arr 0 4 true true [g.av]):=(hV.fl 0 (by omega) (by omega)).trans h00
 have hq2:nth σ2 q0=some (.arr c 2 false true (vs pv [])):=(hV.fl q0 (by omega) hqo).trans k1
 have hall:=fun v hv=>hV.all (Acn v hv)
 clear hV Acn hlt k1 h00
 (conv=>whnf);repeat' (first|(rw [h02];conv=>whnf)|(refine kA ?_;conv=>whnf)|(refine Br.mk (fun hc=>?_) fun hc=>?_<;>first|exact hc.elim|conv=>whnf)|(refine kB ?_))
 all_goals first|(exfalso;omega)|skip
 refine Ah (fun m env s=>∃(i c1 ga n:Nat) (b:Bool) (σ:List Obj) (l:List (Int×Int)),m=g.nodes.length-i∧i≤g.nodes.length∧n=i∧l.length=i∧l.map (·.1)=(AL g).take i∧(∀ p∈l,Least (Il (BH types g)) p.1 p.2)∧HS ⟨1,2,3,4,5,6⟩ (P8 Df) cn σ BM Bc stk Dy DK∧nth σ q0=some (.arr ga 2 b true (vs pv l))∧env=[(5,.ref 6 6 0 0),(8,.own q0 ga 0 n),(76,.sl g.nn (vs GN.av g.nodes)),(77,.int .i64 g.nodes.length),(78,.int .i64 i)]∧s=⟨σ,c1⟩) ?_ _ _ _ ⟨0,_,_,_,_,σ2,[],rfl,by omega,rfl,rfl,by simp,by simp,hS,hq2,rfl,rfl⟩
 clear hS hq2 h02 hi
 rintro _ _ _ ⟨i,c1,ga,n,b,σ,l,rfl,hi,rfl,hll,hl1,hl2,hS,hq,rfl,rfl⟩
 refine⟨rfl,?_⟩
 have h6l:=Dh hS.h6
 have hql:=Dh hq
 by_cases hlt:n<g.nodes.length
 ·obtain⟨x,hx1,hx2⟩:=hall (g.nodes[n]).id (List.mem_map_of_mem (List.getElem_mem hlt))
  have m1:(l++[((g.nodes[n]).id,x)]).map (·.1)=(AL g).take (n+1):=by rw[List.map_append,hl1,F6 hlt];rfl
  have m2:∀p∈l++[((g.nodes[n]).id,x)],Least (Il (BH types g)) p.1 p.2:=fun p hp=>by
   rcases List.mem_append.1 hp with h|h
   ·exact hl2 p h
   ·rw[List.mem_singleton.1 h];exact hx2
  (conv=>whnf);repeat' (first|(refine MO fun σ3 f3 k3 l3=>?_;have hS:=hS.keep f3 (by simp);conv=>whnf)|(rw [k3];conv=>whnf)|(refine I4 k3 fun σ4 f4 k3 l4=>?_;have hS:=hS.keep f4 (by simp;omega);have hq:=(f3.trans f4).get hq (by simp;omega);conv=>whnf)|(rw [hS.h6];conv=>whnf)|(rw [hS.h5];conv=>whnf)|(rw [hq];conv=>whnf)|(refine TD hx1 (fun _=>?_);conv=>whnf)|(refine LG (f:=pv) (l:=l) (x:=((g.nodes[n]).id,x)) Ip hll.symm (by omega) ?_;conv=>whnf)|(refine I4 hq fun σ5 f5 hq l5=>?_;have hS:=hS.keep f5 (by simp;omega);conv=>whnf)|(refine kA ?_;conv=>whnf)|(refine Br.mk (fun hc=>?_) fun hc=>?_<;>first|exact hc.elim|conv=>whnf)|(refine kB ?_))
  all_goals first
   |(exfalso;omega)
   |exact again.mk ⟨_,by omega,n+1,_,_,_,_,_,l++[((g.nodes[n]).id,x)],rfl,by omega,by omega,by simp[hll],m1,m2,hS,hq,rfl,rfl⟩
 ·have hne:n=g.nodes.length:=by omega
  rw[List.take_of_length_le (by omega)]at hl1
  (conv=>whnf);repeat' (first|(rw [hq];conv=>whnf)|(refine kA ?_;conv=>whnf)|(refine Br.mk (fun hc=>?_) fun hc=>?_<;>first|exact hc.elim|conv=>whnf)|(refine kB ?_))
  all_goals first
   |(exfalso;omega)
   |(refine ⟨b,l,?_,fun h=>absurd hck h,fun _=>⟨hl1,hl2⟩⟩;first|rfl|exact congrArg (AV.sl b) (TA (by omega)))
def PD (W:List Int):Prop:=W.Pairwise (fun x y=>x<y)
theorem Zw:∀{a b:List Int},PD a→PD b→(∀ x,x∈a↔x∈b)→a=b
 |[],[],_,_,_=>rfl
 |[],y::b,_,_,h=>absurd ((h y).2 (by simp)) (by simp)
 |x::a,[],_,_,h=>absurd ((h x).1 (by simp)) (by simp)
 |x::a,y::b,ha,hb,h=>by
  have ha':=List.pairwise_cons.1 ha
  have hb':=List.pairwise_cons.1 hb
  have hxy:x=y:=by
   rcases List.mem_cons.1 ((h x).1 (by simp))with e|h1
   ·exact e
   rcases List.mem_cons.1 ((h y).2 (by simp))with e|h2
   ·exact e.symm
   have:=ha'.1 y h2
   have:=hb'.1 x h1
   omega
  subst hxy
  congr 1
  refine Zw ha'.2 hb'.2 fun z=>?_
  have hz:=h z
  simp only[List.mem_cons]at hz
  constructor
  ·intro h1
   rcases hz.1 (.inr h1)with rfl|h2
   ·have:=ha'.1 _ h1;omega
   ·exact h2
  ·intro h1
   rcases hz.2 (.inr h1)with rfl|h2
   ·have:=hb'.1 _ h1;omega
   ·exact h2
theorem Jh {A:List Int} {w:Int} (h:PD A) (hw:∀y∈A,y<w):PD (A++[w]):=by
 unfold PD
 rw[List.pairwise_append]
 exact⟨h,List.pairwise_singleton _ _,fun a ha b hb=>by rw[List.mem_singleton]at hb;subst hb;exact hw a ha⟩
theorem Aek {W:List Int} (h:PD W) {i:Nat} (hi:i<W.length):∀y∈W.take i,y<W[i]:=by
 intro y hy
 obtain⟨j,hj,e⟩:=List.mem_take_iff_getElem.1 hy
 rw[← e]
 exact List.pairwise_iff_getElem.1 h j i (by omega) hi (by omega)
theorem Le {W:List Int} {i:Nat} (hi:i<W.length) {y:Int}:y∈W.take (i+1)↔y∈W.take i∨y=W[i]:=by
 rw[List.take_succ_eq_append_getElem hi,List.mem_append,List.mem_singleton]
set_option maxHeartbeats 1000000 in
theorem Acz {W:List Int} {b:Bool} {x:Int} (hl:W.length≤100000) (hs:PD W):Ar (Ae tab) 87 [.sl b (vs (.int .i64) W),.int .i64 x] (fun v=>∃b' W',v=.sl b' (vs (.int .i64) W')∧PD W'∧W'.length≤W.length+1∧∀y,y∈W'↔y∈W∨y=x):=by
 refine Ad rfl rfl ?_
 (conv=>whnf);repeat' (first  |(refine kA ?_;conv=>whnf)|(refine Br.mk (fun hc=>?_) fun hc=>?_<;>first|exact hc.elim|conv=>whnf)|(refine kB ?_))
 refine Ah (fun m env s=>∃(i c ga n:Nat) (fa d:Bool) (A:List Int),m=W.length-i∧i≤W.length∧n=A.length∧A.length≤i+1∧PD A∧(∀ y,y∈A↔y∈W.take i∨(d=true∧y=x))∧(d=false→A.length≤i∧∀y∈W.take i,y<x)∧(d=true→∃y∈W.take i,x≤y)∧env=[(0,.sl b (vs (.int .i64) W)),(1,.int .i64 x),(5,.own 0 ga 0 n),(6,.bool d),(7,.int .i64 i)]∧s=⟨[.arr ga 1 fa true (vs (.int .i64) A)],c⟩) ?_ _ _ _ ⟨0,_,_,_,_,false,[],rfl,by omega,rfl,by simp,List.Pairwise.nil,by simp,by simp,(fun h=>by cases h),rfl,rfl⟩
 rintro _ _ _ ⟨i,c,ga,n,fa,d,A,rfl,hi,hn,hAl,hA,hm,h0,h1,rfl,rfl⟩
 refine⟨rfl,?_⟩
 by_cases hlt:i<W.length
 ·have hW:=Aek hs hlt
  have hmt:=fun y=>Le (y:=y) hlt
  cases d
  ·obtain⟨Ahy,h0⟩:=h0 rfl
   have hAx:∀y∈A,y<x∧y<W[i]:=fun y hy=>by
        rcases(hm y).1 hy with h|h
        ·exact⟨h0 y h,hW y h⟩
        ·cases h.1
   rcases Int.lt_trichotomy W[i] x with hw|hw|hw
   ·have f1:PD (A++[W[i]]):=Jh hA fun y hy=>(hAx y hy).2
    have f2:∀y,y∈A++[W[i]]↔y∈W.take (i+1)∨(false=true∧y=x):=fun y=>by rw[List.mem_append,List.mem_singleton,hm,hmt];simp
    have f3:∀y∈W.take (i+1),y<x:=fun y hy=>by
     rcases(hmt y).1 hy with h|h
     ·exact h0 y h
     ·rw[h];exact hw
    clear hm h0 hA hAx hmt hW
    (conv=>whnf);repeat' (first|(refine LG (f:=.int .i64) (l:=A) (x:=W[i]) (fun _=>rfl) hn (by omega) ?_;conv=>whnf)|(refine kA ?_;conv=>whnf)|(refine Br.mk (fun hc=>?_) fun hc=>?_<;>first|exact hc.elim|conv=>whnf)|(refine kB ?_))
    all_goals first
     |exact again.mk ⟨_,by omega,i+1,_,_,_,_,false,A++[W[i]],rfl,by omega,by simp,by simp;omega,f1,f2,fun _=>⟨by simp;omega,f3⟩,(fun h=>by cases h),rfl,rfl⟩
     |(exfalso;omega)
   ·have f1:PD (A++[W[i]]):=Jh hA fun y hy=>(hAx y hy).2
    have f2:∀y,y∈A++[W[i]]↔y∈W.take (i+1)∨(true=true∧y=x):=fun y=>by
     rw[List.mem_append,List.mem_singleton,hm,hmt]
     simp only[Bool.false_eq_true,false_and,or_false,true_and,hw]
     constructor
     ·exact fun h=>.inl h
     ·exact fun h=>h.elim id .inr
    have f3:∃y∈W.take (i+1),x≤y:=⟨W[i],(hmt _).2 (.inr rfl),by omega⟩
    clear hm h0 hA hAx hmt hW
    (conv=>whnf);repeat' (first|(refine LG (f:=.int .i64) (l:=A) (x:=W[i]) (fun _=>rfl) hn (by omega) ?_;conv=>whnf)|(refine kA ?_;conv=>whnf)|(refine Br.mk (fun hc=>?_) fun hc=>?_<;>first|exact hc.elim|conv=>whnf)|(refine kB ?_))
    all_goals first
     |exact again.mk ⟨_,by omega,i+1,_,_,_,_,true,A++[W[i]],rfl,by omega,by simp,by simp;omega,f1,f2,(fun h=>by cases h),fun _=>f3,rfl,rfl⟩
     |(exfalso;omega)
   ·have f0:PD (A++[x]):=Jh hA fun y hy=>(hAx y hy).1
    have f1:PD (A++[x]++[W[i]]):=Jh f0 fun y hy=>by
     rcases List.mem_append.1 hy with h|h
     ·exact(hAx y h).2
     ·rw[List.mem_singleton]at h;omega
    have f2:∀y,y∈A++[x]++[W[i]]↔y∈W.take (i+1)∨(true=true∧y=x):=fun y=>by
     rw[List.mem_append,List.mem_append,List.mem_singleton,List.mem_singleton,hm,hmt]
     simp only[Bool.false_eq_true,false_and,or_false,true_and]
     constructor
     ·rintro((h|h)|h)
      ·exact .inl (.inl h)
      ·exact .inr h
      ·exact .inl (.inr h)
     ·rintro((h|h)|h)
      ·exact .inl (.inl h)
      ·exact .inr h
      ·exact .inl (.inr h)
    have f3:∃y∈W.take (i+1),x≤y:=⟨W[i],(hmt _).2 (.inr rfl),by omega⟩
    have hn2:n+1=(A++[x]).length:=by simp[hn]
    clear hm h0 hA hAx hmt hW
    (conv=>whnf);repeat' (first|(refine LG (f:=.int .i64) (l:=A) (x:=x) (fun _=>rfl) hn (by omega) ?_;conv=>whnf)|(refine LG (f:=.int .i64) (l:=A++[x]) (x:=W[i]) (fun _=>rfl) (by simp) (by simp;omega) ?_;conv=>whnf)|(refine kA ?_;conv=>whnf)|(refine Br.mk (fun hc=>?_) fun hc=>?_<;>first|exact hc.elim|conv=>whnf)|(refine kB ?_))
    all_goals first
     |exact again.mk ⟨_,by omega,i+1,_,_,_,_,true,A++[x]++[W[i]],rfl,by omega,by simp,by simp;omega,f1,f2,(fun h=>by cases h),fun _=>f3,rfl,rfl⟩
     |(exfalso;omega)
  ·obtain⟨q,hq,hqx⟩:=h1 rfl
   have hwx:x<W[i]:=by have:=hW q hq;omega
   have f1:PD (A++[W[i]]):=Jh hA fun y hy=>by
        rcases(hm y).1 hy with h|h
        ·exact hW y h
        ·rw[h.2];exact hwx
   have f2:∀y,y∈A++[W[i]]↔y∈W.take (i+1)∨(true=true∧y=x):=fun y=>by
        rw[List.mem_append,List.mem_singleton,hm,hmt]
        simp only[true_and]
        constructor
        ·rintro((h|h)|h)
         ·exact .inl (.inl h)
         ·exact .inr h
         ·exact .inl (.inr h)
        ·rintro((h|h)|h)
         ·exact .inl (.inl h)
         ·exact .inr h
         ·exact .inl (.inr h)
   have f3:∃y∈W.take (i+1),x≤y:=⟨q,(hmt _).2 (.inl hq),hqx⟩
   clear hm h0 hA hmt hW h1 hq
   (conv=>whnf);repeat' (first|(refine LG (f:=.int .i64) (l:=A) (x:=W[i]) (fun _=>rfl) hn (by omega) ?_;conv=>whnf)|(refine kA ?_;conv=>whnf)|(refine Br.mk (fun hc=>?_) fun hc=>?_<;>first|exact hc.elim|conv=>whnf)|(refine kB ?_))
   all_goals first
        |exact again.mk ⟨_,by omega,i+1,_,_,_,_,true,A++[W[i]],rfl,by omega,by simp,by simp;omega,f1,f2,(fun h=>by cases h),fun _=>f3,rfl,rfl⟩
        |(exfalso;omega)
 ·rw[List.take_of_length_le (by omega)]at hm h0 h1
  cases d
  ·obtain⟨Ahy,h0⟩:=h0 rfl
   have f1:PD (A++[x]):=Jh hA fun y hy=>by
     rcases(hm y).1 hy with h|h
     ·exact h0 y h
     ·cases h.1
   have f2:∀y,y∈A++[x]↔y∈W∨y=x:=fun y=>by rw[List.mem_append,List.mem_singleton,hm];simp
   (conv=>whnf);repeat' (first|(refine LG (f:=.int .i64) (l:=A) (x:=x) (fun _=>rfl) hn (by omega) ?_;conv=>whnf)|(refine kA ?_;conv=>whnf)|(refine Br.mk (fun hc=>?_) fun hc=>?_<;>first|exact hc.elim|conv=>whnf)|(refine kB ?_))
   all_goals first
     |exact⟨_,A++[x],rfl,f1,by simp;omega,f2⟩
     |(exfalso;omega)
     |(refine ⟨_,A++[x],?_,f1,by simp;omega,f2⟩;rw[hn,Xh];simp)
  ·obtain⟨q,hq,hqx⟩:=h1 rfl
   have f2:∀y,y∈A↔y∈W∨y=x:=fun y=>by rw[hm];simp
   (conv=>whnf);repeat' (first  |(refine kA ?_;conv=>whnf)|(refine Br.mk (fun hc=>?_) fun hc=>?_<;>first|exact hc.elim|conv=>whnf)|(refine kB ?_))
   all_goals first
     |exact⟨_,A,rfl,hA,by omega,f2⟩
     |(exfalso;omega)
     |exact⟨fa,A,by rw[hn,Xh];simp,hA,by omega,f2⟩
theorem bare {g:GV} {n d s l:Bool}:Ar (Ae tab) 186 [g.av,.bool n,.bool d,.bool s,.bool l] (fun v=>∃b,v=.bool b):=by
 cases n<;>cases d<;>cases s<;>cases l<;>(
 refine Ad rfl rfl ?_
 (conv=>whnf);repeat' (first|(refine kA ?_;conv=>whnf)|(refine Br.mk (fun hc=>?_) fun hc=>?_<;>first|exact hc.elim|conv=>whnf)  |(refine kB ?_))
 all_goals exact⟨_,rfl⟩)
theorem Agu {n:Int}:Ar (Ae tab) 187 [.int .i64 n] (fun v=>∃b,v=.bool b):=by
 refine Ad rfl rfl ?_
 (conv=>whnf);repeat' (first|(refine kA ?_;conv=>whnf)|(refine Br.mk (fun hc=>?_) fun hc=>?_<;>first|exact hc.elim|conv=>whnf)  |(refine kB ?_))
 all_goals exact⟨_,rfl⟩
theorem size {n:Int} (h1:-2^62≤n) (h2:n≤2^62):Ar (Ae tab) 203 [.int .i64 n] (fun v=>∃z,v=.int .i64 z∧0≤z∧(z=n∨z=-n)):=by
 refine Ad rfl rfl ?_
 (conv=>whnf);repeat' (first|(refine kA ?_;conv=>whnf)|(refine Br.mk (fun hc=>?_) fun hc=>?_<;>first|exact hc.elim|conv=>whnf)  |(refine kB ?_))
 all_goals exact⟨_,rfl,by omega,by omega⟩
theorem gcd {a b:Int} (h1:0≤a) (h2:0≤b):Ar (Ae tab) 202 [.int .i64 a,.int .i64 b] (fun v=>∃z,v=.int .i64 z):=by
 refine Ad rfl rfl ?_
 (conv=>whnf);repeat' (first|(refine kA ?_;conv=>whnf)|(refine Br.mk (fun hc=>?_) fun hc=>?_<;>first|exact hc.elim|conv=>whnf)  |(refine kB ?_))
 refine Ah (fun m env s=>∃(a b:Int),m=b.toNat∧0≤a∧0≤b∧env=[(0,.int .i64 a),(1,.int .i64 b)]∧s=⟨[],0⟩) ?_ _ _ _ ⟨a,b,rfl,h1,h2,rfl,rfl⟩
 clear h1 h2 a b
 rintro _ _ _ ⟨a,b,rfl,h1,h2,rfl,rfl⟩
 refine⟨rfl,?_⟩
 (conv=>whnf);repeat' (first|(refine kA ?_;conv=>whnf)|(refine Br.mk (fun hc=>?_) fun hc=>?_<;>first|exact hc.elim|conv=>whnf)  |(refine kB ?_))
 ·have e:a.tmod b=a % b:=Int.tmod_eq_emod_of_nonneg h1
  have:=Int.emod_lt_of_pos a (by omega:0<b)
  have:=Int.emod_nonneg a (by omega:b≠0)
  exact again.mk ⟨_,by rw[e];omega,_,_,rfl,h2,by rw[e];omega,rfl,rfl⟩
 ·exact⟨_,rfl⟩
theorem Adp {n d:Int}:Ar (Ae tab) 188 [.agg [.int .i64 n,.int .i64 d]] (fun v=>∃b,v=.bool b∧(b=true→1≤d∧d≤1000000000000000∧-1000000000000000≤n∧n≤1000000000000000)):=by
 refine Ad rfl rfl ?_
 (conv=>whnf);repeat' (first|(refine kA ?_;conv=>whnf)|(refine Br.mk (fun hc=>?_) fun hc=>?_<;>first|exact hc.elim|conv=>whnf)|(refine Aa (size (n:=n) (by omega) (by omega)) ?_;rintro _ ⟨z,rfl,hz1,hz2⟩;conv=>whnf)|(refine Aa (gcd (by omega) (by omega)) ?_;rintro _ ⟨z2,rfl⟩;conv=>whnf)|(refine kB ?_))
 all_goals first|exact⟨_,rfl,fun _=>by omega⟩|exact⟨_,rfl,fun h=>absurd h Bool.false_ne_true⟩
theorem AeP {s:List UInt8} (hl:s.length<2^63):Ar (Ae tab) 189 [.str s] (fun v=>∃b,v=.bool b):=by
 refine Ad rfl rfl ?_
 (conv=>whnf);repeat' (first|(refine kA ?_;conv=>whnf)|(refine Br.mk (fun hc=>?_) fun hc=>?_<;>first|exact hc.elim|conv=>whnf)  |(refine kB ?_))
 refine Ah (fun m env s'=>∃i:Nat,m=s.length-i∧env=[(0,.str s),(3,.int .i64 i)]∧s'=⟨[],0⟩) ?_ _ _ _ ⟨0,rfl,rfl,rfl⟩
 rintro _ _ _ ⟨i,rfl,rfl,rfl⟩
 refine⟨rfl,?_⟩
 (conv=>whnf);repeat' (first|(refine kA ?_;conv=>whnf)|(refine Br.mk (fun hc=>?_) fun hc=>?_<;>first|exact hc.elim|conv=>whnf)  |(refine kB ?_))
 all_goals first|exact⟨_,rfl⟩|exact again.mk ⟨_,by omega,i+1,rfl,rfl,rfl⟩
theorem Yn {g:GV} {n:Int} (h:g.k=5∨g.k=6):Ar (Ae tab) 162 [g.av,.int .i64 n] (fun v=>∃b,v=.bool b):=by
 refine Ad rfl rfl ?_
 (conv=>whnf);repeat' (first|(refine kA ?_;conv=>whnf)|(refine Br.mk (fun hc=>?_) fun hc=>?_<;>first|exact hc.elim|conv=>whnf)|(refine Aa (bare (g:=g)) ?_;rintro _ ⟨b,rfl⟩;conv=>whnf)|(refine kB ?_))
 all_goals exact⟨_,rfl⟩
theorem Adq {l:List AV} {nn:Bool} (hl:l.length<2^63) (h:∀x∈l,Like Tryz.prog 53 x):Ar (Ae tab) 190 [.sl nn l] (fun v=>∃b,v=.bool b):=by
 refine Ad rfl rfl ?_
 (conv=>whnf);repeat' (first|(refine kA ?_;conv=>whnf)|(refine Br.mk (fun hc=>?_) fun hc=>?_<;>first|exact hc.elim|conv=>whnf)  |(refine kB ?_))
 all_goals first|exact⟨_,rfl⟩|skip
 refine Ah (fun m env s'=>∃i:Nat,m=l.length-i∧env=[(0,.sl nn l),(3,.int .i64 i)]∧s'=⟨[],0⟩) ?_ _ _ _ ⟨0,rfl,rfl,rfl⟩
 rintro _ _ _ ⟨i,rfl,rfl,rfl⟩
 refine⟨rfl,?_⟩
 obtain⟨gx,hgx⟩:=Tt h i
 (conv=>whnf);repeat' (first|(refine kA ?_;conv=>whnf)|(refine Br.mk (fun hc=>?_) fun hc=>?_<;>first|exact hc.elim|conv=>whnf)|(apply Am;(· exact(hgx (by omega)).1);conv=>whnf)|(refine Aa (Yn (g:=gx) (by omega)) ?_;rintro _ ⟨b,rfl⟩;conv=>whnf)|(refine kB ?_))
 all_goals first|exact⟨_,rfl⟩|exact again.mk ⟨_,by omega,i+1,rfl,rfl,rfl⟩
theorem AeZ {l:List AV} {nn:Bool} (hl:l.length<2^63):Ar (Ae tab) 191 [.sl nn l,.int .i64 0] (fun v=>∃b,v=.bool b):=by
 refine Ad rfl rfl ?_
 (conv=>whnf);repeat' (first|(refine kA ?_;conv=>whnf)|(refine Br.mk (fun hc=>?_) fun hc=>?_<;>first|exact hc.elim|conv=>whnf)  |(refine kB ?_))
 all_goals exact⟨_,rfl⟩
theorem Ae0 {n:Nat} (ih:∀{g:GV},g.ok→Ar (Ae tab) 162 [g.av,.int .i64 n] (fun v=>∃b,v=.bool b)) (hn:n<2^60) {l:List AV} {nn:Bool} (hl:l.length<2^63) (h:∀x∈l,Like Tryz.prog 53 x):
 Ar (Ae tab) 191 [.sl nn l,.int .i64 (n+1:Nat)] (fun v=>∃b,v=.bool b):=by
 refine Ad rfl rfl ?_
 (conv=>whnf);repeat' (first|(refine kA ?_;conv=>whnf)|(refine Br.mk (fun hc=>?_) fun hc=>?_<;>first|exact hc.elim|conv=>whnf)  |(refine kB ?_))
 all_goals first|exact⟨_,rfl⟩|skip
 refine Ah (fun m env s'=>∃i:Nat,m=l.length-i∧env=[(0,.sl nn l),(1,.int .i64 (n+1:Nat)),(5,.int .i64 i)]∧s'=⟨[],0⟩) ?_ _ _ _ ⟨0,rfl,rfl,rfl⟩
 rintro _ _ _ ⟨i,rfl,rfl,rfl⟩
 refine⟨rfl,?_⟩
 obtain⟨gx,hgx⟩:=Tt h i
 have ih':∀{g:GV},g.ok→Ar (Ae tab) 162 [g.av,.int .i64 (((n+1:Nat):Int)-1)] (fun v=>∃b,v=.bool b):=by
  rw[show ((n+1:Nat):Int)-1=(n:Int) by omega];exact ih
 (conv=>whnf);repeat' (first|(refine kA ?_;conv=>whnf)|(refine Br.mk (fun hc=>?_) fun hc=>?_<;>first|exact hc.elim|conv=>whnf)|(apply Am;(· exact(hgx (by omega)).1);conv=>whnf)|(refine Aa (ih' (g:=gx) (hgx (by omega)).2.2) ?_;rintro _ ⟨b,rfl⟩;conv=>whnf)|(refine kB ?_))
 all_goals first|exact⟨_,rfl⟩|exact again.mk ⟨_,by omega,i+1,rfl,rfl,rfl⟩
theorem Aam {n:Int} {g:GV} (hg:g.ok) (hlist:Ar (Ae tab) 191 [.sl g.nn g.l,.int .i64 n] (fun v=>∃b,v=.bool b)):
 Ar (Ae tab) 162 [g.av,.int .i64 n] (fun v=>∃b,v=.bool b):=by
 obtain⟨g1,g2,g3,g4,g5,g6,g7⟩:=hg
 unfold Ln at g4 g5
 refine Ad rfl rfl ?_
 (conv=>whnf);repeat' (first|(refine kA ?_;conv=>whnf)|(refine Br.mk (fun hc=>?_) fun hc=>?_<;>first|exact hc.elim|conv=>whnf)|(refine Aa (bare (g:=g)) ?_;rintro _ ⟨b,rfl⟩;conv=>whnf)|(refine Aa (Agu (n:=g.n)) ?_;rintro _ ⟨b,rfl⟩;conv=>whnf)|(refine Aa (Adp (n:=g.n) (d:=g.d)) ?_;rintro _ ⟨b,rfl,_⟩;conv=>whnf)|(refine Aa (AeP g4) ?_;rintro _ ⟨b,rfl⟩;conv=>whnf)|(refine Aa (Adq g5 g7) ?_;rintro _ ⟨b,rfl⟩;conv=>whnf)|(refine Aa hlist ?_;rintro _ ⟨b,rfl⟩;conv=>whnf)|(refine kB ?_))
 all_goals exact⟨_,rfl⟩
theorem valid {n:Nat} (hn:n<2^60):∀{g:GV},g.ok→Ar (Ae tab) 162 [g.av,.int .i64 n] (fun v=>∃b,v=.bool b):=by
 induction n with
 |zero=>intro g hg;exact Aam hg (AeZ hg.2.2.2.2.1)
 |succ n ih=>intro g hg;exact Aam hg (Ae0 (ih (by omega)) (by omega) hg.2.2.2.2.1 hg.2.2.2.2.2.2)
theorem Valid {g:GV} (hg:g.ok):Ar (Ae tab) 133 [g.av] (fun v=>∃b,v=.bool b):=by
 refine Ad rfl rfl ?_
 (conv=>whnf);repeat' (first|(refine kA ?_;conv=>whnf)|(refine Br.mk (fun hc=>?_) fun hc=>?_<;>first|exact hc.elim|conv=>whnf)|(refine Aa (valid (n:=8) (by omega) hg) ?_;rintro _ ⟨b,rfl⟩;conv=>whnf)|(refine kB ?_))
 all_goals exact⟨_,rfl⟩
def SS (v:GV) (n d s l:Bool):Prop:=(n=true∨v.n=0)∧(d=true∨v.d=0)∧(s=true∨v.s=[])∧(l=true∨v.l.length=0)
instance (v:GV) (n d s l:Bool):Decidable (SS v n d s l):=by unfold SS;infer_instance
theorem AfF {v:GV} {n d s l:Bool} (hl:v.l.length<2^63):Ar (Ae tab) 186 [v.av,.bool n,.bool d,.bool s,.bool l] (· =.bool (decide (SS v n d s l))):=by
 cases n<;>cases d<;>cases s<;>cases l
 all_goals
  refine Ad rfl rfl ?_
  (conv=>whnf);repeat' (first|(refine kA ?_;conv=>whnf)|(refine Br.mk (fun hc=>?_) fun hc=>?_<;>first|exact hc.elim|conv=>whnf)  |(refine kB ?_))
 all_goals first
  |(refine Ce ?_;unfold SS;refine⟨?_,?_,?_,?_⟩<;>first|(left;rfl)|(right;first|assumption|omega))
  |(refine Bf ?_;unfold SS;rintro⟨h1,h2,h3,h4⟩;simp only[Bool.false_eq_true,false_or,true_or]at h1 h2 h3 h4;first|contradiction|omega)
theorem Ahh {s:List UInt8} (hl:s.length<2^63):Ar (Ae tab) 189 [.str s] (· =.bool (decide (okS s))):=by
 refine Ad rfl rfl ?_
 (conv=>whnf);repeat' (first|(refine kA ?_;conv=>whnf)|(refine Br.mk (fun hc=>?_) fun hc=>?_<;>first|exact hc.elim|conv=>whnf)  |(refine kB ?_))
 refine Ah (fun m env s'=>∃i:Nat,m=s.length-i∧env=[(0,.str s),(3,.int .i64 i)]∧s'=⟨[],0⟩∧∀c∈s.take i,Na c=false) ?_ _ _ _ ⟨0,rfl,rfl,rfl,by simp⟩
 rintro _ _ _ ⟨i,rfl,rfl,rfl,hx⟩
 refine⟨rfl,?_⟩
 (conv=>whnf);repeat' (first|(refine kA ?_;conv=>whnf)|(refine Br.mk (fun hc=>?_) fun hc=>?_<;>first|exact hc.elim|conv=>whnf)  |(refine kB ?_))
 all_goals first
  |exact again.mk ⟨_,by omega,i+1,rfl,rfl,rfl,Bo (by omega) hx (by unfold Na;simp;omega)⟩
  |(refine Bf fun h=>?_;have:=h.2 s[i] (List.getElem_mem (by omega));unfold Na at this;simp at this;omega)
  |(rw [List.take_of_length_le (by omega)]at hx;exact Ce ⟨by omega,hx⟩)
  |(refine Bf fun h=>?_;have:=h.1;omega)
theorem Ad8 {v:GV} (hv:v.ok) (hk:Ig v) {n:Int}:Ar (Ae tab) 162 [v.av,.int .i64 n] (· =.bool (decide (EN v))):=by
 obtain⟨g1,g2,g3,g4,g5,g6,g7⟩:=hv
 unfold Ln at g4 g5
 unfold Ig at hk
 refine Ad rfl rfl ?_
 (conv=>whnf);repeat' (first|(refine kA ?_;conv=>whnf)|(refine Br.mk (fun hc=>?_) fun hc=>?_<;>first|exact hc.elim|conv=>whnf)|(refine Dk (AfF (v:=v) g5) (fun hb=>?_) (fun hb=>?_)<;>conv=>whnf)|(refine Dk (Ahg (n:=v.n)) (fun hr=>?_) (fun hr=>?_)<;>conv=>whnf)|(refine Dk (Ahh (s:=v.s) g4) (fun hr=>?_) (fun hr=>?_)<;>conv=>whnf)|(refine kB ?_))
 all_goals unfold SS at hb
 all_goals simp only[Bool.false_eq_true,false_or,true_or,true_and]at hb
 all_goals first
  |exact Ce (Ad9 (by omega) hb.1 hb.2.2 hb.2.1 (by omega))
  |exact Ce (Aea (by omega) hb.1 hb.2.2 hb.2.1 hr)
  |exact Ce (Aeb (by omega) hb.2.1 hb.2.2 hb.1 hr)
  |exact Bf fun h=>hb ⟨h.1,Aec h (by omega),h.2.1⟩
  |exact Bf fun h=>hb ⟨(Aa5 h (by omega)).1,h.1,h.2.1⟩
  |(refine Bf fun h=>?_;have:=Aed h (by omega);omega)
  |exact Bf fun h=>hr (Aee h (by omega))
  |exact Bf fun h=>hr (Aa5 h (by omega)).2
  |(exfalso;omega)
theorem Aef {v:GV} (hv:v.ok) (hk:Ig v):Ar (Ae tab) 133 [v.av] (· =.bool (decide (EN v))):=by
 refine Ad rfl rfl ?_
 (conv=>whnf);repeat' (first|(refine kA ?_;conv=>whnf)|(refine Br.mk (fun hc=>?_) fun hc=>?_<;>first|exact hc.elim|conv=>whnf)|(refine Dk (Ad8 (v:=v) hv hk) (fun hr=>?_) (fun hr=>?_)<;>conv=>whnf)|(refine kB ?_))
 all_goals first|exact Ce (by assumption)|exact Bf (by assumption)
theorem Aeg {v:GV} (hv:v.ok):Ar (Ae tab) 103 [v.av] (· =.bool (decide (EN v))):=by
 by_cases hk:Ig v
 ·have hk':=hk
  unfold Ig at hk'
  refine Ad rfl rfl ?_
  (conv=>whnf);repeat' (first|(refine kA ?_;conv=>whnf)|(refine Br.mk (fun hc=>?_) fun hc=>?_<;>first|exact hc.elim|conv=>whnf)|(refine Dk (Aef (v:=v) hv hk) (fun hr=>?_) (fun hr=>?_)<;>conv=>whnf)|(refine kB ?_))
  all_goals first|exact Ce (by assumption)|exact Bf (by assumption)|(exfalso;omega)
 ·have hk':=hk
  unfold Ig at hk'
  refine Ad rfl rfl ?_
  (conv=>whnf);repeat' (first|(refine kA ?_;conv=>whnf)|(refine Br.mk (fun hc=>?_) fun hc=>?_<;>first|exact hc.elim|conv=>whnf)|(refine Aa (Valid (g:=v) hv) ?_;rintro _ ⟨b,rfl⟩;conv=>whnf)|(refine kB ?_))
  all_goals first|exact Bf (fun h=>hk (SV h))|(exfalso;omega)
theorem AfG {P:List GP} {nn:Bool} (hl:P.length<2^40):Ar (Ae tab) 100 [.sl nn (vs GP.av P)] (fun v=>∃b,v=.sl b (vs .str (keysOf P))):=by
 refine Ad rfl rfl ?_
 (conv=>whnf);repeat' (first|(refine kA ?_;conv=>whnf)|(refine Br.mk (fun hc=>?_) fun hc=>?_<;>first|exact hc.elim|conv=>whnf)  |(refine kB ?_))
 refine Ah (fun m env s=>∃(i c go n:Nat) (b:Bool),m=P.length-i∧i≤P.length∧n=i∧env=[(0,.sl nn (vs GP.av P)),(3,.own 0 go 0 n),(4,.int .i64 i)]∧s=⟨[.arr go 1 b true (vs .str (keysOf (P.take i)))],c⟩) ?_ _ _ _ ⟨0,_,_,0,_,rfl,by omega,rfl,rfl,rfl⟩
 rintro _ _ _ ⟨i,c,go,n,b,rfl,hi,hn,rfl,rfl⟩
 refine⟨rfl,?_⟩
 (conv=>whnf);repeat' (first|(refine LG (x:=(P[i]).key) (fun _=>rfl) (by simp;omega) (by simp;omega) ?_;conv=>whnf)|(refine kA ?_;conv=>whnf)|(refine Br.mk (fun hc=>?_) fun hc=>?_<;>first|exact hc.elim|conv=>whnf)|(refine kB ?_))
 ·exact again.mk ⟨_,by omega,i+1,_,_,_,_,rfl,by omega,by simp;omega,rfl,by rw[OH (by omega)]⟩
 ·obtain rfl:i=P.length:=by omega
  refine⟨b,?_⟩
  rw[Xh,hn]
  simp
  rw[List.take_of_length_le (by simp)]
theorem Aa4 {L:List (List UInt8)} {P:List GP} {ln pn:Bool} (hL:L.length<2^63) (hs:∀s∈L,s.length<2^63) (hP:P.length<2^63) (hp:∀p∈P,p.ok):Ar (Ae tab) 81 [.sl ln (vs .str L),.sl pn (vs GP.av P)] (· =.int .i64 (DJ L P)):=by
 have hk:=RD hp
 have hkl:(keysOf P).length<2^63:=by rw[LJ];exact hP
 refine Ad rfl rfl ?_
 (conv=>whnf);repeat' (first|(refine kA ?_;conv=>whnf)|(refine Br.mk (fun hc=>?_) fun hc=>?_<;>first|exact hc.elim|conv=>whnf)  |(refine kB ?_))
 ·exact PE (by omega)
 ·exact PE (by omega)
 have h16:¬(8<L.length∨16<P.length):=by omega
 refine Aa (AfG (P:=P) (by omega)) ?_
 rintro _ ⟨b,rfl⟩
 (conv=>whnf);repeat' (first|(refine Dk (ZH hL hs) (fun h1=>?_) (fun h1=>?_)<;>conv=>whnf)|(refine Dk (ZH hkl hk) (fun h2=>?_) (fun h2=>?_)<;>conv=>whnf)|(refine Dk (ZJ hL) (fun h3=>?_) (fun h3=>?_)<;>conv=>whnf)|(refine Dk (ZJ hkl) (fun h4=>?_) (fun h4=>?_)<;>conv=>whnf)|(refine kA ?_;conv=>whnf)|(refine Br.mk (fun hc=>?_) fun hc=>?_<;>first|exact hc.elim|conv=>whnf)|(refine kB ?_))
 all_goals first
  |exact PG h16 fun h=>h1 h.1
  |exact PG h16 fun h=>h2 h.2
  |exact MN h16 ⟨h1,h2⟩ fun h=>h3 h.1
  |exact MN h16 ⟨h1,h2⟩ fun h=>h4 h.2
  |skip
 refine Ah (fun m env s=>∃(i:Nat),m=P.length-i∧env=[(1,.sl pn (vs GP.av P)),(6,.int .i64 i)]∧s=⟨[],0⟩∧∀p∈P.take i,EN p.v) ?_ _ _ _ ⟨0,rfl,rfl,rfl,by simp⟩
 rintro _ _ _ ⟨i,rfl,rfl,rfl,hx⟩
 refine⟨rfl,?_⟩
 (conv=>whnf);repeat' (first|(refine Dk (Aeg (v:=(P[i]).v) (hp _ (List.getElem_mem (by omega))).2) (fun hr=>?_) (fun hr=>?_)<;>conv=>whnf)|(refine kA ?_;conv=>whnf)|(refine Br.mk (fun hc=>?_) fun hc=>?_<;>first|exact hc.elim|conv=>whnf)|(refine kB ?_))
 ·exact again.mk ⟨_,by omega,i+1,rfl,rfl,rfl,Bo (by omega) hx hr⟩
 ·exact Xy h16 ⟨h1,h2⟩ ⟨h3,h4⟩ fun h=>hr (h _ (List.getElem_mem _))
 ·rw[CZ hc]at hx
  exact Xz h16 ⟨h1,h2⟩ ⟨h3,h4⟩ hx
theorem Ac2 {g:GG} (hl:g.nodes.length<2^62) {id:Int}:Ar (Ae tab) 82 [g.av,.int .i64 id] (fun v=>∃n:GN,v=.EY [n.av,.bool (decide (id∈FY g.nodes))]):=by
 refine Ad rfl rfl ?_
 (conv=>whnf);repeat' (first|(refine kA ?_;conv=>whnf)|(refine Br.mk (fun hc=>?_) fun hc=>?_<;>first|exact hc.elim|conv=>whnf)  |(refine kB ?_))
 refine Ah (fun m env s=>∃i:Nat,m=g.nodes.length-i∧id∉FY (g.nodes.take i)∧env=[(1,.int .i64 id),(2,.ref 0 0 0 0),(4,.ref 1 1 0 0),(6,.int .i64 i)]∧s=⟨[.arr 0 4 true true [g.av],.arr 1 3 true true [.agg [.int .i64 0,.sl false [],.sl false []]]],2⟩) ?_ _ _ _ ⟨0,rfl,by simp[FY],rfl,rfl⟩
 rintro _ _ _ ⟨i,rfl,hx,rfl,rfl⟩
 refine⟨rfl,?_⟩
 (conv=>whnf);repeat' (first|(refine kA ?_;conv=>whnf)|(refine Br.mk (fun hc=>?_) fun hc=>?_<;>first|exact hc.elim|conv=>whnf)  |(refine kB ?_))
 ·refine⟨g.nodes[i],?_⟩
  have:id∈FY g.nodes:=hc▸List.mem_map_of_mem (List.getElem_mem _)
  rw[decide_eq_true this];rfl
 ·refine again.mk ⟨_,by omega,i+1,rfl,?_,rfl,rfl⟩
  unfold FY at hx ⊢
  rw[List.take_succ_eq_append_getElem (by omega),List.map_append,List.mem_append]
  rintro(h|h)
  ·exact hx h
  ·simp at h;exact hc h.symm
 ·rw[CZ hc]at hx
  refine⟨⟨0,false,[],false,[]⟩,?_⟩
  rw[decide_eq_false hx];rfl
theorem AfD {g:GG} (hg:g.ok) {i:Nat} (hi:i<g.nodes.length):Ar (Ae tab) 54 [g.av,.int .i64 i] (· =.int .i64 (EM g.nodes g.FI i)):=by
 obtain⟨g1,g2,g3,g4,g5,g6,g7,g8⟩:=hg
 unfold Ln at g1 g4
 have hat:=g3 _ (List.getElem_mem hi)
 refine Ad rfl rfl ?_
 (conv=>whnf);repeat' (first|(apply Am;(· exact nVz (i-1) (by omega) (by omega));conv=>whnf)|(refine Aa (Aa4 (L:=(g.nodes[i]).labels) (P:=(g.nodes[i]).props) hat.2.1 hat.2.2.2.1 hat.2.2.2.2.1 hat.2.2.2.2.2.2) ?_;rintro _ rfl;conv=>whnf)|(refine kA ?_;conv=>whnf)|(refine Br.mk (fun hc=>?_) fun hc=>?_<;>first|exact hc.elim|conv=>whnf)|(refine kB ?_))
 all_goals first
  |(rw [Xr hi (fun h=>by first|assumption|omega) (by omega)];rfl)
  |(rw [VU hi (by omega) (by assumption)];rfl)
  |(rw [node1 hi (fun h=>by first|assumption|omega) (by omega)];rfl)
set_option maxHeartbeats 1000000 in
theorem AfE {g:GG} (hg:g.ok) (hf:g.nodes.length<2^62) {i:Nat} (hi:i<g.edges.length):Ar (Ae tab) 55 [g.av,.int .i64 i] (· =.int .i64 (EU g.nodes g.edges g.Hw i)):=by
 obtain⟨g1,g2,g3,g4,g5,g6,g7,g8⟩:=hg
 unfold Ln at g1 g4
 have hat:=g6 _ (List.getElem_mem hi)
 refine Ad rfl rfl ?_
 (conv=>whnf);repeat' (first|(apply Am;(· exact nVz (i-1) (by omega) (by omega));conv=>whnf)|(refine Aa (Ac2 (g:=g) (id:=(g.edges[i]).fr) hf) ?_;rintro _ ⟨n1,rfl⟩;conv=>whnf)|(refine Aa (Ac2 (g:=g) (id:=(g.edges[i]).to) hf) ?_;rintro _ ⟨n2,rfl⟩;conv=>whnf)|(refine Dk (name2 (s:=(g.edges[i]).ty) hat.2.2.2.1) (fun hnm=>?_) (fun hnm=>?_)<;>conv=>whnf)|(refine Aa (Aa4 (L:=[]) (P:=(g.edges[i]).props) (by decide) (by simp) hat.2.2.2.2.1 hat.2.2.2.2.2.2) ?_;rintro _ rfl;conv=>whnf)|(refine kA ?_;conv=>whnf)|(refine Br.mk (fun hc=>?_) fun hc=>?_<;>first|exact hc.elim|conv=>whnf)|(refine kB ?_))
 all_goals try simp only[decide_eq_true_eq,decide_eq_false_iff_not]at*
 all_goals first
  |(rw [VW hi (by omega) (by assumption)];rfl)
  |(rw [Zi hi (fun h=>by first|assumption|omega) (by omega)];rfl)
  |(rw [Xt hi (fun h=>by first|assumption|omega) (by omega) ⟨by assumption,by assumption⟩ hnm];rfl)
  |(rw [Zj hi (fun h=>by first|assumption|omega) (by omega) ⟨by assumption,by assumption⟩ hnm];rfl)
  |(rw [VX hi (fun h=>by first|assumption|omega) (by omega) (fun h=>by first|exact absurd h.1 (by assumption)|exact absurd h.2 (by assumption))];rfl)
theorem ZB {g:GG} (hg:g.ok):Ar (Ae tab) 30 [g.av] (· =.int .i64 (Bg g)):=by
 have hg0:=hg
 obtain⟨g1,g2,g3,g4,g5,g6,g7,g8⟩:=hg
 unfold Ln at g1 g4
 refine Ad rfl rfl ?_
 (conv=>whnf);repeat' (first|(refine kA ?_;conv=>whnf)|(refine Br.mk (fun hc=>?_) fun hc=>?_<;>first|exact hc.elim|conv=>whnf)  |(refine kB ?_))
 all_goals first|exact Zk (by unfold Fj;omega)|exact Zl (by unfold Fj;omega) (by unfold F5;omega)|skip
 have hf:Fj g:=by unfold Fj;omega
 have hnx:F5 g:=by unfold F5;omega
 have hf1:=hf.1
 have hf2:=hf.2
 refine Ah (fun m env s=>∃i:Nat,m=g.nodes.length-i∧i≤g.nodes.length∧(∀ k,k<i→EM g.nodes g.FI k=0)∧env=[(1,.ref 0 0 0 0),(3,.int .i64 i)]∧s=⟨[.arr 0 4 true true [g.av]],1⟩) ?_ _ _ _ ⟨0,rfl,by omega,fun k h=>absurd h (by omega),rfl,rfl⟩
 rintro _ _ _ ⟨i,rfl,hin,hx,rfl,rfl⟩
 refine⟨rfl,?_⟩
 (conv=>whnf);repeat' (first|(refine Aa (AfD hg0 (i:=i) (by omega)) ?_;rintro _ rfl;conv=>whnf)|(refine kA ?_;conv=>whnf)|(refine Br.mk (fun hc=>?_) fun hc=>?_<;>first|exact hc.elim|conv=>whnf)|(refine kB ?_))
 ·exact again.mk ⟨_,by omega,i+1,rfl,by omega,IG hx hc,rfl,rfl⟩
 ·exact checkN hf hnx (by omega) hx rfl hc
 have hN:∀k,k<g.nodes.length→EM g.nodes g.FI k=0:=fun k h=>hx k (by omega)
 refine Ah (fun m env s=>∃i:Nat,m=g.edges.length-i∧i≤g.edges.length∧(∀ k,k<i→EU g.nodes g.edges g.Hw k=0)∧env=[(1,.ref 0 0 0 0),(5,.int .i64 i)]∧s=⟨[.arr 0 4 true true [g.av]],1⟩) ?_ _ _ _ ⟨0,rfl,by omega,fun k h=>absurd h (by omega),rfl,rfl⟩
 rintro _ _ _ ⟨j,rfl,hjn,hy,rfl,rfl⟩
 refine⟨rfl,?_⟩
 (conv=>whnf);repeat' (first|(refine Aa (AfE hg0 (i:=j) (by omega) (by omega)) ?_;rintro _ rfl;conv=>whnf)|(refine kA ?_;conv=>whnf)|(refine Br.mk (fun hc=>?_) fun hc=>?_<;>first|exact hc.elim|conv=>whnf)|(refine kB ?_))
 ·exact again.mk ⟨_,by omega,j+1,rfl,by omega,IG hy hc,rfl,rfl⟩
 ·exact KO hf hnx hN (by omega) hy rfl hc
 ·exact Zm hf hnx hN fun k h=>hy k (by omega)
end AI
end Go.Proofs.YtjjhejbffgaabaaGreatDoor
