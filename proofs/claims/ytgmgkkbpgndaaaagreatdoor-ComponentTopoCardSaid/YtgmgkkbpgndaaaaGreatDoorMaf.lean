/- component.edges: the edges of some types. Join, both; Same. Names: the program's and the reference's. value.Plain and the reference's Plain: which values may be stored. Names in a list, increasing strings, labels and properties. -/
import Derived.Test.YtgmgkkbpgndaaaaGreatDoorMae
import Derived.Test.YtgmgkkbpgndaaaaGreatDoorMac
set_option linter.unusedVariables false
set_option maxRecDepth 4000
namespace Go.Proofs.YtgmgkkbpgndaaaaGreatDoor
namespace AI
theorem delE {types:List (List UInt8)} {tn:Bool} (hl:types.length<2^63) {e:GE}:PureP (findFn tab) 52 [e.av,.fref [.sl tn (vs .str types)]] (· =.bool (!decide (HT types e))):=by
 have p1:=hasType1 (l:=types) (e:=e) (nn:=tn) (by omega)
 refine pureP_of rfl rfl ?_
 (conv=>whnf);repeat' (first|(refine callK_of p1 ?_;rintro _ rfl;conv=>whnf)|(refine kA ?_;conv=>whnf)|(refine Br.mk (fun hc=>?_) fun hc=>?_<;>first|exact hc.elim|conv=>whnf)|(refine kB ?_))
 all_goals first | (rw [‹decide (HT types e) = true›]; rfl) | (rw [‹decide (HT types e) = false›]; rfl) | rfl | (trace_state; fail "delE")
inductive IdxE (p:GE→Prop) (L:List GE):AV→Prop
 |at(i:Nat) (h:i<L.length) (hf:¬p L[i]) (hb:∀e∈L.take i,p e):IdxE p L (.int .i64 i)
 |no (hf:∀e∈L,p e):IdxE p L (.int .i64 (-1))
theorem idxE {types:List (List UInt8)} {tn nn:Bool} (hl:types.length<2^63) {L:List GE} (hL:L.length<2^62):
 PureP (findFn tab) 80 [.sl nn (vs GE.av L),.fn 52 [.fref [.sl tn (vs .str types)]]] (IdxE (HT types) L):=by
 refine pureP_of rfl rfl ?_
 (conv=>whnf);repeat' (first  |(refine kA ?_;conv=>whnf)|(refine Br.mk (fun hc=>?_) fun hc=>?_<;>first|exact hc.elim|conv=>whnf)|(refine kB ?_))
 refine loop_inv (fun m env s=>∃i:Nat,m=L.length-i∧env=[(0,.sl nn (vs GE.av L)),(1,.fn 52 [.fref [.sl tn (vs .str types)]]),(7,.int .i64 L.length),(8,.int .i64 i)]∧s=⟨[],0⟩∧∀e∈L.take i,HT types e) ?_ _ _ _ ⟨0,rfl,rfl,rfl,by simp⟩
 rintro _ _ _ ⟨i,rfl,rfl,rfl,hx⟩
 refine⟨rfl,?_⟩
 by_cases hlt:i<L.length
 ·have hp:=delE (types:=types) (tn:=tn) hl (e:=L[i])
  by_cases he:HT types L[i]
  ·rw[decide_eq_true he]at hp
   (conv=>whnf);repeat' (first|(refine callK_of hp ?_;rintro _ rfl;conv=>whnf)|(refine kA ?_;conv=>whnf)|(refine Br.mk (fun hc=>?_) fun hc=>?_<;>first|exact hc.elim|conv=>whnf)|(refine kB ?_))
   all_goals first
        |(exfalso;omega)
        |exact again.mk ⟨_,by omega,i+1,rfl,rfl,rfl,fun e h=>by
          rw[List.take_succ_eq_append_getElem hlt,List.mem_append,List.mem_singleton]at h
          rcases h with h|h
          ·exact hx e h
          ·subst h;exact he⟩
        | (trace_state; fail "idxE1")
  ·rw[decide_eq_false he]at hp
   (conv=>whnf);repeat' (first|(refine callK_of hp ?_;rintro _ rfl;conv=>whnf)|(refine kA ?_;conv=>whnf)|(refine Br.mk (fun hc=>?_) fun hc=>?_<;>first|exact hc.elim|conv=>whnf)|(refine kB ?_))
   all_goals first
        |(exfalso;omega)
        |exact .at i hlt he hx
        | (trace_state; fail "idxE2")
 ·rw[List.take_of_length_le (by omega)]at hx
  (conv=>whnf);repeat' (first  |(refine kA ?_;conv=>whnf)|(refine Br.mk (fun hc=>?_) fun hc=>?_<;>first|exact hc.elim|conv=>whnf)|(refine kB ?_))
  all_goals first
   |(exfalso;omega)
   |exact .no hx
   | (trace_state; fail "idxE3")
structure Del (p:GE→Prop) [DecidablePred p] (L W:List GE) (i j:Nat):Prop where
 len:W.length=L.length
 le:i≤j
 new:W.take i=(L.take j).filter fun e=>decide (p e)
 old:∀k,j≤k→W[k]?=L[k]?
section
variable {p:GE→Prop} [DecidablePred p] {L W:List GE} {i j:Nat}
theorem Del.start {i:Nat} (h:i<L.length) (hf:¬p L[i]) (hb:∀e∈L.take i,p e):Del p L L i (i+1):=by
 refine⟨rfl,by omega,?_,fun _ _=>rfl⟩
 rw[List.take_succ_eq_append_getElem h,List.filter_append,List.filter_eq_self.2 fun e he=>decide_eq_true (hb e he)]
 simp[hf]
theorem Del.at (h:Del p L W i j) (hj:j<L.length):W[j]'(by rw[h.len];exact hj)=L[j]:=by
 have:=h.old j (Nat.le_refl _)
 rw[List.getElem?_eq_getElem hj,List.getElem?_eq_getElem (by rw[h.len];exact hj)]at this
 simpa using this
theorem Del.keep (h:Del p L W i j) (hj:j<L.length) (hp:p L[j]):Del p L (W.set i L[j]) (i+1) (j+1):=by
 have hi:i<W.length:=by rw[h.len];have:=h.le;omega
 refine⟨by simp[h.len],by have:=h.le;omega,?_,fun k hk=>?_⟩
 ·rw[List.take_succ_eq_append_getElem (by simpa using hi),List.getElem_set_self,List.take_set_of_le (Nat.le_refl _),h.new,List.take_succ_eq_append_getElem hj,List.filter_append]
  simp[hp]
 ·rw[List.getElem?_set_ne (by have:=h.le;omega)];exact h.old k (by omega)
theorem Del.drop (h:Del p L W i j) (hj:j<L.length) (hp:¬p L[j]):Del p L W i (j+1):=by
 refine⟨h.len,by have:=h.le;omega,?_,fun k hk=>h.old k (by omega)⟩
 rw[h.new,List.take_succ_eq_append_getElem hj,List.filter_append]
 simp[hp]
theorem Del.all (h:Del p L W i j) (hj:¬j<L.length):W.take i=L.filter fun e=>decide (p e):=by
 rw[h.new,List.take_of_length_le (by omega)]
end
theorem cellsE (e:GE):e.av.cells.length=5:=rfl
theorem clrE {i n c g:Nat} {ob0 ob1:Obj} {W:List GE} {env:Env} (h:i≤n) (hW:W.length=n) (he:env.get 38=.own 2 g (Int.toNat (i:Int)) (n-Int.toNat (i:Int))):
 evOp noCall (.clear 5 (.tmp 38)) env ⟨[ob0,ob1,.arr g 5 true true (vs GE.av W)],c⟩=some (.ok .undef,⟨[ob0,ob1,.arr g 5 true true (vs GE.av (W.take i))],c⟩):=by
 have e1:(AO.tmp 38).val env=.own 2 g i (n-i):=he
 have hl:(vs GE.av W).length=n:=by rw[lV,hW]
 simp only[evOp,e1,nth]
 rw[if_pos ⟨trivial,trivial,by rw[hl];omega⟩]
 have e2:(if n-i=0 then vs GE.av W else(vs GE.av W).take i)=vs GE.av (W.take i):=by
  split
  ·rw[List.take_of_length_le (by omega)]
  ·simp[vs,List.map_take]
 rw[e2]
 rfl
set_option maxHeartbeats 1000000 in
theorem delF {types:List (List UInt8)} {tn:Bool} (hl:types.length<2^63) {L:List GE} (hL:L.length<2^40) {ob0 ob1:Obj} {g c n:Nat} (hn:n=L.length):
 Calls1 (findFn tab) 50 [.own 2 g 0 n,.fn 52 [.fref [.sl tn (vs .str types)]]] ⟨[ob0,ob1,.arr g 5 true true (vs GE.av L)],c⟩
  fun out s'=>∃c' W,W=(L.filter fun e=>decide (HT types e))∧out=.ok (.own 2 g 0 W.length)∧s'=⟨[ob0,ob1,.arr g 5 true true (vs GE.av W)],c'⟩:=by
 subst hn
 obtain⟨_,iE,pI⟩:=(idxE (types:=types) (tn:=tn) (nn:=true) hl (L:=L) (by omega)).det
 refine calls1_of rfl rfl ?_
 cases iE with
 |no hf=>
  (conv=>whnf);repeat' (first|(refine callK_of pI ?_;rintro _ rfl;conv=>whnf)|(refine kA ?_;conv=>whnf)|(refine Br.mk (fun hc=>?_) fun hc=>?_<;>first|exact hc.elim|conv=>whnf)|(refine kB ?_))
  all_goals first
   |(exfalso;omega)
   |exact⟨_,L,(List.filter_eq_self.2 fun e he=>decide_eq_true (hf e he)).symm,rfl,rfl⟩
   | (trace_state; fail "delF1")
 |«at» i hi hf hb=>
  (conv=>whnf);repeat' (first|(refine callK_of pI ?_;rintro _ rfl;conv=>whnf)|(refine kA ?_;conv=>whnf)|(refine Br.mk (fun hc=>?_) fun hc=>?_<;>first|exact hc.elim|conv=>whnf)|(refine kB ?_))
  all_goals first|(exfalso;omega)|skip
  refine loop_inv (fun m env s=>∃(i j c:Nat) (W:List GE),m=L.length-j∧Del (HT types) L W i j∧i≤L.length∧env=[(0,.own 2 g 0 L.length),(1,.fn 52 [.fref [.sl tn (vs .str types)]]),(5,.int .i64 i),(6,.int .i64 j)]∧s=⟨[ob0,ob1,.arr g 5 true true (vs GE.av W)],c⟩) ?_ _ _ _ ⟨i,i+1,_,L,rfl,.start hi hf hb,by omega,by simp,rfl⟩
  clear hc pI hi hf hb
  rintro _ _ _ ⟨i,j,c,W,rfl,hD,hi,rfl,rfl⟩
  refine⟨rfl,?_⟩
  have hWl:=hD.len
  have hij:=hD.le
  by_cases hlt:j<L.length
  ·have hx:=hD.at hlt
   have n1:nth (vs GE.av W) (Int.toNat (Nat.cast j))=some (L[j]).av:=by rw[← hx];exact nVN (by omega)
   have hp:=delE (types:=types) (tn:=tn) hl (e:=L[j])
   by_cases he:HT types L[j]
   ·rw[decide_eq_true he]at hp
    have hlw:i<W.length:=by omega
    (conv=>whnf);repeat' (first|(apply nthK_intro;(· exact n1);conv=>whnf)|(refine callK_of hp ?_;rintro _ rfl;conv=>whnf)|(refine tV (f:=GE.av) (x:=L[j]) cellsE i ?_;conv=>whnf)|(refine kA ?_;conv=>whnf)|(refine Br.mk (fun hc=>?_) fun hc=>?_<;>first|exact hc.elim|conv=>whnf)|(refine kB ?_))
    all_goals first
     |(exfalso;omega)
     |exact again.mk ⟨_,by omega,i+1,j+1,_,_,rfl,hD.keep hlt he,by omega,by simp,rfl⟩
     | (trace_state; fail "delF2")
   ·rw[decide_eq_false he]at hp
    (conv=>whnf);repeat' (first|(apply nthK_intro;(· exact n1);conv=>whnf)|(refine callK_of hp ?_;rintro _ rfl;conv=>whnf)|(refine kA ?_;conv=>whnf)|(refine Br.mk (fun hc=>?_) fun hc=>?_<;>first|exact hc.elim|conv=>whnf)|(refine kB ?_))
    all_goals first
     |(exfalso;omega)
     |exact again.mk ⟨_,by omega,i,j+1,_,_,rfl,hD.drop hlt he,by omega,by simp,rfl⟩
     | (trace_state; fail "delF3")
  ·have he:=hD.all hlt
   have hli:(W.take i).length=i:=by rw[List.length_take];omega
   (conv=>whnf);repeat' (first|(apply getK_intro (clrE hi hWl rfl);conv=>whnf)|(refine kA ?_;conv=>whnf)|(refine Br.mk (fun hc=>?_) fun hc=>?_<;>first|exact hc.elim|conv=>whnf)|(refine kB ?_))
   all_goals first
        |(exfalso;omega)
        |exact⟨_,W.take i,he,congrArg (fun n=>AOut.ok (.own 2 g 0 n)) hli.symm,rfl⟩
        | (trace_state; fail "delF4")
theorem cloneEv {L:List GE} (hl:L.length<2^40):Calls1 (findFn tab) 51 [.sl true (vs GE.av L)] ⟨[],0⟩ fun out s'=>∃o g,out=.ok (.own o g 0 (vs GE.av L).length)∧nth s'.σ o=some (.arr g 5 true true (vs GE.av L)):=by
 refine calls1_of rfl rfl ?_
 (conv=>whnf);repeat' (first|(refine apVt (f:=GE.av) (l:=[]) (l':=L) rfl cellsE rfl (by simp;omega) ?_;conv=>whnf)|(refine kA ?_;conv=>whnf)|(refine Br.mk (fun hc=>?_) fun hc=>?_<;>first|exact hc.elim|conv=>whnf)|(refine kB ?_))
 all_goals first | exact ⟨0, _, congrArg (fun n => AOut.ok (.own 0 _ 0 n)) ((Nat.zero_add _).trans (lV L).symm), rfl⟩ | (trace_state; fail "cloneE2")
theorem cloneEn:Calls1 (findFn tab) 51 [.sl false []] ⟨[],0⟩ fun out _=>out=.ok (.sl false []):=by
 refine calls1_of rfl rfl ?_
 (conv=>whnf);repeat' (first  |(refine kA ?_;conv=>whnf)|(refine Br.mk (fun hc=>?_) fun hc=>?_<;>first|exact hc.elim|conv=>whnf)|(refine kB ?_))
 all_goals first | rfl | (trace_state; fail "cloneE1")
theorem delF0 {types:List (List UInt8)} {tn:Bool} (hl:types.length<2^63) {ob0 ob1:Obj} {g c:Nat}:
 Calls1 (findFn tab) 50 [.own 2 g 0 0,.fn 52 [.fref [.sl tn (vs .str types)]]] ⟨[ob0,ob1,.arr g 1 false true []],c⟩
  fun out s'=>∃c',out=.ok (.own 2 g 0 0)∧s'=⟨[ob0,ob1,.arr g 1 false true []],c'⟩:=by
 obtain⟨_,iE,pI⟩:=(idxE (types:=types) (tn:=tn) (nn:=false) hl (L:=[]) (by simp)).det
 cases iE with
 |«at» i hi hf hb=>exact absurd hi (by simp)
 |no hf=>
 refine calls1_of rfl rfl ?_
 (conv=>whnf);repeat' (first|(refine callK_of pI ?_;rintro _ rfl;conv=>whnf)|(refine kA ?_;conv=>whnf)|(refine Br.mk (fun hc=>?_) fun hc=>?_<;>first|exact hc.elim|conv=>whnf)|(refine kB ?_))
 all_goals first
  |(exfalso;omega)
  |exact⟨_,rfl,rfl⟩
  | (trace_state; fail "delF0")
def edgT (types:List (List UInt8)) (g:GG):List GE:=g.edges.filter fun e=>decide (HT types e)
theorem edgesP {types:List (List UInt8)} {tn:Bool} (hl:types.length<2^63) {g:GG} (hg:g.ok) (hE:g.edges.length<2^39):PureP (findFn tab) 31 [g.av,.sl tn (vs .str types)] (fun v=>∃b,v=.sl b (vs GE.av (edgT types g))):=by
 unfold edgT
 cases hen:g.en with
 |false=>
  have h0:g.edges=[]:=hg.2.2.2.2.1 hen
  have hav:g.av=.agg [.sl g.nn (vs GN.av g.nodes),.sl false [],.int .i64 g.nextN,.int .i64 g.nextE]:=by unfold GG.av;rw[hen,h0];rfl
  rw[hav,h0]
  refine pureP_of rfl rfl ?_
  (conv=>whnf);repeat' (first|(refine ownK_nil rfl cloneEn ?_;conv=>whnf)|(refine (delF0 hl).mono ?_;rintro _ _ ⟨c',rfl,rfl⟩;conv=>whnf)|(refine kA ?_;conv=>whnf)|(refine Br.mk (fun hc=>?_) fun hc=>?_<;>first|exact hc.elim|conv=>whnf)|(refine kB ?_))
  all_goals first | (exfalso; omega) | exact ⟨false, rfl⟩ | (trace_state; fail "edgesP0")
 |true=>
  have hav:g.av=.agg [.sl g.nn (vs GN.av g.nodes),.sl true (vs GE.av g.edges),.int .i64 g.nextN,.int .i64 g.nextE]:=by unfold GG.av;rw[hen]
  rw[hav]
  have pc:=cloneEv (L:=g.edges) (by omega)
  refine pureP_of rfl rfl ?_
  (conv=>whnf);repeat' (first|(refine ownK rfl pc ?_;conv=>whnf)|(refine (delF hl (L:=g.edges) (by omega) (lV _)).mono ?_;rintro _ _ ⟨c',W,hW,rfl,rfl⟩;conv=>whnf)|(refine kA ?_;conv=>whnf)|(refine Br.mk (fun hc=>?_) fun hc=>?_<;>first|exact hc.elim|conv=>whnf)|(refine kB ?_))
  all_goals first | (exfalso; omega) | exact ⟨true, by rw [hW]⟩ | (trace_state; fail "edgesP1")
def LB (l:List (Int×Int)):AV→Prop:=fun v=>∃b,v=.sl b (vs pv l)
theorem sub0 {f:Int×Int→AV} {l:List (Int×Int)} {n:Nat} (h:n=l.length):sub (vs f l) 0 n=vs f l:=by subst h;exact uV
set_option maxHeartbeats 1000000 in
theorem joinR {l:List (Int×Int)} {a b:Int} {nn:Bool} (hl:l.length<2^40):PureP (findFn tab) 10 [.sl nn (vs pv l),.int .i64 a,.int .i64 b] (LB (joinB l a b)):=by
 have pa:=findR (l:=l) (a:=a) (nn:=nn) (by omega)
 have pb:=findR (l:=l) (a:=b) (nn:=nn) (by omega)
 unfold joinB
 cases ha:findB l a with
 |none=>
  rw[ha]at pa
  obtain⟨_,rfl,pb⟩:=pb.det
  cases hb:findB l b with
  |none=>
   rw[hb]at pb
   refine pureP_of rfl rfl ?_
   (conv=>whnf);repeat' (first|(refine callK_of pa ?_;rintro _ rfl;conv=>whnf)|(refine callK_of pb ?_;rintro _ rfl;conv=>whnf)|(refine apVt (f:=pv) (l:=[]) (l':=l) rfl cellsPv rfl (by simp;omega) ?_;conv=>whnf)|(refine kA ?_;conv=>whnf)|(refine Br.mk (fun hc=>?_) fun hc=>?_<;>first|exact hc.elim|conv=>whnf)|(refine kB ?_))
   all_goals first | (exfalso; omega) | exact ⟨true, congrArg (AV.sl true) (sub0 (by simp))⟩ | (trace_state; fail "joinR1")
  |some y=>
   rw[hb]at pb
   refine pureP_of rfl rfl ?_
   (conv=>whnf);repeat' (first|(refine callK_of pa ?_;rintro _ rfl;conv=>whnf)|(refine callK_of pb ?_;rintro _ rfl;conv=>whnf)|(refine apVt (f:=pv) (l:=[]) (l':=l) rfl cellsPv rfl (by simp;omega) ?_;conv=>whnf)|(refine kA ?_;conv=>whnf)|(refine Br.mk (fun hc=>?_) fun hc=>?_<;>first|exact hc.elim|conv=>whnf)|(refine kB ?_))
   all_goals first | (exfalso; omega) | exact ⟨true, congrArg (AV.sl true) (sub0 (by simp))⟩ | (trace_state; fail "joinR1b")
 |some x=>
  rw[ha]at pa
  cases hb:findB l b with
  |none=>
   rw[hb]at pb
   refine pureP_of rfl rfl ?_
   (conv=>whnf);repeat' (first|(refine callK_of pa ?_;rintro _ rfl;conv=>whnf)|(refine callK_of pb ?_;rintro _ rfl;conv=>whnf)|(refine apVt (f:=pv) (l:=[]) (l':=l) rfl cellsPv rfl (by simp;omega) ?_;conv=>whnf)|(refine kA ?_;conv=>whnf)|(refine Br.mk (fun hc=>?_) fun hc=>?_<;>first|exact hc.elim|conv=>whnf)|(refine kB ?_))
   all_goals first | (exfalso; omega) | exact ⟨true, congrArg (AV.sl true) (sub0 (by simp))⟩ | (trace_state; fail "joinR2")
  |some y=>
   rw[hb]at pb
   refine pureP_of rfl rfl ?_
   (conv=>whnf);repeat' (first|(refine callK_of pa ?_;rintro _ rfl;conv=>whnf)|(refine callK_of pb ?_;rintro _ rfl;conv=>whnf)|(refine apVt (f:=pv) (l:=[]) (l':=l) rfl cellsPv rfl (by simp;omega) ?_;conv=>whnf)|(refine kA ?_;conv=>whnf)|(refine Br.mk (fun hc=>?_) fun hc=>?_<;>first|exact hc.elim|conv=>whnf)|(refine kB ?_))
   refine loop_inv (fun m env s=>∃(i c g n:Nat) (W:List (Int×Int)),m=l.length-i∧n=l.length∧Half (mergeB x y) l W i∧env=[(7,.int .i64 x),(9,.int .i64 y),(11,.own 0 g 0 n),(12,.int .i64 i)]∧s=⟨[.arr g 2 true true (vs pv W)],c⟩) ?_ _ _ _ ⟨0,_,_,_,l,rfl,by simp,.start _ _,rfl,rfl⟩
   rintro _ _ _ ⟨i,c,g,n,W,rfl,rfl,hW,rfl,rfl⟩
   refine⟨rfl,?_⟩
   have hWl:=hW.len
   by_cases hlt:i<l.length
   ·have hx:=hW.at hlt
    have n1:nth (vs pv W) (Int.toNat (Nat.cast i))=some (pv (l[i])):=by rw[← hx];exact nVN (by omega)
    (conv=>whnf);repeat' (first|(apply nthK_intro;(· exact n1);conv=>whnf)|(refine tPv ?_;conv=>whnf)|(refine kA ?_;conv=>whnf)|(refine Br.mk (fun hc=>?_) fun hc=>?_<;>first|exact hc.elim|conv=>whnf)|(refine kB ?_))
    all_goals first
     |(exfalso;omega)
     |(have hp:=hW.put hlt;rw[mergeB_hit (by first|exact .inl ‹_› |exact .inr ‹_›)]at hp;exact again.mk ⟨_,by omega,i+1,_,_,_,_,rfl,rfl,hp,rfl,rfl⟩)
     |exact again.mk ⟨_,by omega,i+1,_,_,_,_,rfl,rfl,hW.skip hlt (mergeB_miss (by assumption) (by assumption)),rfl,rfl⟩
     | (trace_state; fail "joinR4")
   ·have he:=hW.all hlt
    (conv=>whnf);repeat' (first  |(refine kA ?_;conv=>whnf)|(refine Br.mk (fun hc=>?_) fun hc=>?_<;>first|exact hc.elim|conv=>whnf)|(refine kB ?_))
    all_goals first
     |(exfalso;omega)
     |(refine ⟨true,?_⟩;rw[sub0 hWl.symm,he])
     | (trace_state; fail "joinR9")
theorem clonePv {l:List (Int×Int)} (hl:l.length<2^40):Calls1 (findFn tab) 20 [.sl true (vs pv l)] ⟨[],0⟩ fun out s'=>∃o g,out=.ok (.own o g 0 (vs pv l).length)∧nth s'.σ o=some (.arr g 2 true true (vs pv l)):=by
 refine calls1_of rfl rfl ?_
 (conv=>whnf);repeat' (first|(refine apVt (f:=pv) (l:=[]) (l':=l) rfl cellsPv rfl (by simp;omega) ?_;conv=>whnf)|(refine kA ?_;conv=>whnf)|(refine Br.mk (fun hc=>?_) fun hc=>?_<;>first|exact hc.elim|conv=>whnf)|(refine kB ?_))
 all_goals first | exact ⟨0, _, congrArg (fun n => AOut.ok (.own 0 _ 0 n)) ((Nat.zero_add _).trans (lV l).symm), rfl⟩ | (trace_state; fail "clonePv2")
theorem clonePn:Calls1 (findFn tab) 20 [.sl false []] ⟨[],0⟩ fun out _=>out=.ok (.sl false []):=by
 refine calls1_of rfl rfl ?_
 (conv=>whnf);repeat' (first  |(refine kA ?_;conv=>whnf)|(refine Br.mk (fun hc=>?_) fun hc=>?_<;>first|exact hc.elim|conv=>whnf)|(refine kB ?_))
 all_goals first | rfl | (trace_state; fail "clonePv1")
set_option maxHeartbeats 1000000 in
theorem joinP {l:List (Int×Int)} {a b:Int} {nn:Bool} (hl:l.length<2^40) (hn:nn=false→l=[]):PureP (findFn tab) 9 [.sl nn (vs pv l),.int .i64 a,.int .i64 b] (LB (joinB l a b)):=by
 obtain⟨_,ia,pa⟩:=(idx (l:=l) (a:=a) (nn:=nn) (by omega) (fun p=>isA1)).det
 obtain⟨_,ib,pb⟩:=(idx (l:=l) (a:=b) (nn:=nn) (by omega) (fun p=>isA2)).det
 unfold joinB
 cases nn with
 |false=>
  have:=hn rfl
  subst this
  cases ia with
  |«at» i h=>exact absurd h (by simp)
  |no _=>
  cases ib with
  |«at» i h=>exact absurd h (by simp)
  |no _=>
  refine pureP_of rfl rfl ?_
  (conv=>whnf);repeat' (first|(refine callK_of pa ?_;rintro _ rfl;conv=>whnf)|(refine callK_of pb ?_;rintro _ rfl;conv=>whnf)|(refine ownK_nil rfl clonePn ?_;conv=>whnf)|(refine kA ?_;conv=>whnf)|(refine Br.mk (fun hc=>?_) fun hc=>?_<;>first|exact hc.elim|conv=>whnf)|(refine kB ?_))
  all_goals first | (exfalso; omega) | exact ⟨_, rfl⟩ | (trace_state; fail "joinP1")
 |true=>
  have pc:=clonePv hl
  cases ia with
  |no ha=>
   rw[ha]
   cases ib with
   |no hb=>
    rw[hb]
    refine pureP_of rfl rfl ?_
    (conv=>whnf);repeat' (first|(refine callK_of pa ?_;rintro _ rfl;conv=>whnf)|(refine callK_of pb ?_;rintro _ rfl;conv=>whnf)|(refine ownK rfl pc ?_;conv=>whnf)|(refine kA ?_;conv=>whnf)|(refine Br.mk (fun hc=>?_) fun hc=>?_<;>first|exact hc.elim|conv=>whnf)|(refine kB ?_))
    all_goals first | (exfalso; omega) | exact ⟨true, congrArg (AV.sl true) (sub0 (by simp))⟩ | (trace_state; fail "joinP2")
   |«at» k hk hb=>
    rw[hb]
    refine pureP_of rfl rfl ?_
    (conv=>whnf);repeat' (first|(refine callK_of pa ?_;rintro _ rfl;conv=>whnf)|(refine callK_of pb ?_;rintro _ rfl;conv=>whnf)|(refine ownK rfl pc ?_;conv=>whnf)|(refine kA ?_;conv=>whnf)|(refine Br.mk (fun hc=>?_) fun hc=>?_<;>first|exact hc.elim|conv=>whnf)|(refine kB ?_))
    all_goals first | (exfalso; omega) | exact ⟨true, congrArg (AV.sl true) (sub0 (by simp))⟩ | (trace_state; fail "joinP3")
  |«at» i hi ha=>
   rw[ha]
   cases ib with
   |no hb=>
    rw[hb]
    refine pureP_of rfl rfl ?_
    (conv=>whnf);repeat' (first|(refine callK_of pa ?_;rintro _ rfl;conv=>whnf)|(refine callK_of pb ?_;rintro _ rfl;conv=>whnf)|(refine ownK rfl pc ?_;conv=>whnf)|(refine kA ?_;conv=>whnf)|(refine Br.mk (fun hc=>?_) fun hc=>?_<;>first|exact hc.elim|conv=>whnf)|(refine kB ?_))
    all_goals first | (exfalso; omega) | exact ⟨true, congrArg (AV.sl true) (sub0 (by simp))⟩ | (trace_state; fail "joinP4")
   |«at» k hk hb=>
    rw[hb]
    refine pureP_of rfl rfl ?_
    (conv=>whnf);repeat' (first|(refine callK_of pa ?_;rintro _ rfl;conv=>whnf)|(refine callK_of pb ?_;rintro _ rfl;conv=>whnf)|(refine ownK rfl pc ?_;conv=>whnf)|(refine kA ?_;conv=>whnf)|(refine Br.mk (fun hc=>?_) fun hc=>?_<;>first|exact hc.elim|conv=>whnf)|(refine kB ?_))
    all_goals first|(exfalso;omega)|skip
    obtain⟨x,hx⟩:∃x,(l[i]).2=x:=⟨_,rfl⟩
    obtain⟨y,hy⟩:∃y,(l[k]).2=y:=⟨_,rfl⟩
    rw[hx,hy]
    refine loop_inv (fun m env s=>∃(i c g n:Nat) (W:List (Int×Int)),m=l.length-i∧n=l.length∧Half (mergeB x y) l W i∧env=[(7,.own 2 g 0 n),(10,.int .i64 x),(11,.int .i64 y),(39,.int .i64 n),(40,.int .i64 i)]∧s=⟨[.arr 0 1 true true [.int .i64 a],.arr 1 1 true true [.int .i64 b],.arr g 2 true true (vs pv W)],c⟩) ?_ _ _ _ ⟨0,_,_,(vs pv l).length,l,rfl,by rw[lV],.start _ _,rfl,rfl⟩
    rintro _ _ _ ⟨i,c,g,n,W,rfl,rfl,hW,rfl,rfl⟩
    refine⟨rfl,?_⟩
    have hWl:=hW.len
    by_cases hlt:i<l.length
    ·have hx:=hW.at hlt
     have n1:nth (vs pv W) (Int.toNat (Nat.cast i))=some (pv (l[i])):=by rw[← hx];exact nVN (by omega)
     (conv=>whnf);repeat' (first|(apply nthK_intro;(· exact n1);conv=>whnf)|(refine tPv ?_;conv=>whnf)|(refine kA ?_;conv=>whnf)|(refine Br.mk (fun hc=>?_) fun hc=>?_<;>first|exact hc.elim|conv=>whnf)|(refine kB ?_))
     all_goals first
      |(exfalso;omega)
      |(have hp:=hW.put hlt;rw[mergeB_hit (by first|exact .inl ‹_› |exact .inr ‹_›)]at hp;exact again.mk ⟨_,by omega,i+1,_,_,_,_,rfl,rfl,hp,rfl,rfl⟩)
      |exact again.mk ⟨_,by omega,i+1,_,_,_,_,rfl,rfl,hW.skip hlt (mergeB_miss (by assumption) (by assumption)),rfl,rfl⟩
      | (trace_state; fail "joinP5")
    ·have he:=hW.all hlt
     (conv=>whnf);repeat' (first  |(refine kA ?_;conv=>whnf)|(refine Br.mk (fun hc=>?_) fun hc=>?_<;>first|exact hc.elim|conv=>whnf)|(refine kB ?_))
     all_goals first
      |(exfalso;omega)
      |(refine ⟨true,?_⟩;rw[sub0 hWl.symm,he])
      | (trace_state; fail "joinP6")
theorem sameL {l m:List (Int×Int)} {b1 b2:Bool} (hl:l.length<2^40) (hm:m.length<2^40):PureP (findFn tab) 8 [.sl b1 (vs pv l),.sl b2 (vs pv m)] (· =.bool (decide (l=m))):=by
 by_cases hlen:l.length=m.length
 ·refine pureP_of rfl rfl ?_
  (conv=>whnf);repeat' (first  |(refine kA ?_;conv=>whnf)|(refine Br.mk (fun hc=>?_) fun hc=>?_<;>first|exact hc.elim|conv=>whnf)|(refine kB ?_))
  all_goals first|(exfalso;omega)|skip
  refine loop_inv (fun z env s=>∃(i:Nat),z=l.length-i∧l.take i=m.take i∧env=[(0,.sl b1 (vs pv l)),(1,.sl b2 (vs pv m)),(5,.int .i64 i)]∧s=⟨[],0⟩) ?_ _ _ _ ⟨0,rfl,rfl,rfl,rfl⟩
  rintro _ _ _ ⟨i,rfl,hx,rfl,rfl⟩
  refine⟨rfl,?_⟩
  by_cases hlt:i<l.length
  ·have hb:bin .neq (.flat [.int,.int]) (.agg (List.take 2 (pv l[i]).cells)) (.agg (List.take 2 (pv (m[i]'(by omega))).cells))=some (.bool (!decide (l[i]=m[i]'(by omega)))):=by
        generalize l[i]=p
        generalize m[i]'_=q
        obtain⟨p1,p2⟩:=p
        obtain⟨q1,q2⟩:=q
        by_cases h1:p1=q1
        ·by_cases h2:p2=q2
         ·simp[bin,eqAV,eqFlat,eqLeaf,pv,AV.cells,h1,h2]
         ·have e2:(p2==q2)=false:=by simpa using h2
          simp[bin,eqAV,eqFlat,eqLeaf,pv,AV.cells,h1,h2,e2]
        ·have e1:(p1==q1)=false:=by simpa using h1
         simp[bin,eqAV,eqFlat,eqLeaf,pv,AV.cells,h1,e1]
   by_cases he:l[i]=m[i]'(by omega)
   ·rw[decide_eq_true he]at hb
    (conv=>whnf);repeat' (first|(apply getK_intro hb;conv=>whnf)|(refine kA ?_;conv=>whnf)|(refine Br.mk (fun hc=>?_) fun hc=>?_<;>first|exact hc.elim|conv=>whnf)|(refine kB ?_))
    all_goals first
     |(exfalso;omega)
     |exact again.mk ⟨_,by omega,i+1,rfl,by rw[List.take_succ_eq_append_getElem hlt,List.take_succ_eq_append_getElem (by omega),hx,he],rfl,rfl⟩
     | (trace_state; fail "sameL1")
   ·rw[decide_eq_false he]at hb
    have hno:¬l=m:=fun e=>he (by subst e;rfl)
    (conv=>whnf);repeat' (first|(apply getK_intro hb;conv=>whnf)|(refine kA ?_;conv=>whnf)|(refine Br.mk (fun hc=>?_) fun hc=>?_<;>first|exact hc.elim|conv=>whnf)|(refine kB ?_))
    all_goals first
     |(exfalso;omega)
     |exact bool_f hno
     | (trace_state; fail "sameL2")
  ·have hyes:l=m:=by rw[List.take_of_length_le (by omega),List.take_of_length_le (by omega)]at hx;exact hx
   (conv=>whnf);repeat' (first  |(refine kA ?_;conv=>whnf)|(refine Br.mk (fun hc=>?_) fun hc=>?_<;>first|exact hc.elim|conv=>whnf)|(refine kB ?_))
   all_goals first
        |(exfalso;omega)
        |exact bool_t hyes
        | (trace_state; fail "sameL3")
 ·have hno:¬l=m:=fun e=>hlen (by rw[e])
  refine pureP_of rfl rfl ?_
  (conv=>whnf);repeat' (first  |(refine kA ?_;conv=>whnf)|(refine Br.mk (fun hc=>?_) fun hc=>?_<;>first|exact hc.elim|conv=>whnf)|(refine kB ?_))
  all_goals first | (exfalso; omega) | exact bool_f hno | (trace_state; fail "sameL4")
def isLetter (c:Int):Prop:=(97≤c∧c≤122)∨(65≤c∧c≤90)
instance (c:Int):Decidable (isLetter c):=by unfold isLetter;infer_instance
theorem letter1 {c:Int}:PureP (findFn tab) 79 [.int .u8 c] (· =.bool (decide (isLetter c))):=by
 refine pureP_of rfl rfl ?_
 (conv=>whnf);repeat' (first|(refine kA ?_;conv=>whnf)|(refine Br.mk (fun hc=>?_) fun hc=>?_<;>first|exact hc.elim|conv=>whnf)  |(refine kB ?_))
 all_goals first|exact bool_t (by unfold isLetter;omega)|exact bool_f (by unfold isLetter;omega)
theorem letter2 {c:Int}:PureP (findFn tab) 122 [.int .u8 c] (· =.bool (decide (isLetter c))):=by
 refine pureP_of rfl rfl ?_
 (conv=>whnf);repeat' (first|(refine kA ?_;conv=>whnf)|(refine Br.mk (fun hc=>?_) fun hc=>?_<;>first|exact hc.elim|conv=>whnf)  |(refine kB ?_))
 all_goals first|exact bool_t (by unfold isLetter;omega)|exact bool_f (by unfold isLetter;omega)
def inName (c:Int):Prop:=isLetter c∨(48≤c∧c≤57)∨c=95
instance (c:Int):Decidable (inName c):=by unfold inName;infer_instance
def isName (s:List UInt8):Prop:=0<s.length∧s.length≤20∧(∀ c,s[0]?=some c→isLetter c.toNat)∧∀c∈s,inName c.toNat
instance (s:List UInt8):Decidable (isName s):=by unfold isName;infer_instance
theorem isName_letter {s:List UInt8} (hs:0<s.length) (h:isName s):isLetter s[0].toNat:=h.2.2.1 _ (List.getElem?_eq_getElem hs)
theorem isName_at {s:List UInt8} {i:Nat} (hi:i<s.length) (h:isName s):inName s[i].toNat:=h.2.2.2 _ (List.getElem_mem _)
theorem one_in {s:List UInt8} (hs:0<s.length) (h:inName s[0].toNat):∀c∈s.take 1,inName c.toNat:=by
 cases s with
 |nil=>simp at hs
 |cons a l=>simpa using h
theorem name1 {s:List UInt8} (hl:s.length<2^63):PureP (findFn tab) 49 [.str s] (· =.bool (decide (isName s))):=by
 by_cases h0:s.length=0
 ·obtain rfl:s=[]:=List.length_eq_zero_iff.1 h0
  refine pureP_of rfl rfl ?_
  (conv=>whnf);repeat' (first|(refine kA ?_;conv=>whnf)|(refine Br.mk (fun hc=>?_) fun hc=>?_<;>first|exact hc.elim|conv=>whnf)  |(refine kB ?_))
  all_goals exact bool_f (by simp[isName])
 have hs:0<s.length:=by omega
 have hne:s≠[]:=by rintro rfl;simp at h0
 have hz:s[0]?=some s[0]:=List.getElem?_eq_getElem hs
 refine pureP_of rfl rfl ?_
 (conv=>whnf);repeat' (first|(refine kA ?_;conv=>whnf)|(refine Br.mk (fun hc=>?_) fun hc=>?_<;>first|exact hc.elim|conv=>whnf)|(refine callB (letter1) (fun hc=>?_) (fun hc=>?_)<;>conv=>whnf)|(refine kB ?_))
 all_goals first|exact absurd hc hne|exact bool_f (by unfold isName;omega)|exact bool_f fun h=>hc (isName_letter hs h)|skip
 refine loop_inv (fun m env s'=>∃i:Nat,m=s.length-i∧env=[(0,.str s),(18,.int .i64 s.length),(19,.int .i64 i)]∧s'=⟨[],0⟩∧∀c∈s.take i,inName c.toNat) ?_ _ _ _ ⟨0,rfl,by simp,rfl,by simp⟩
 rintro _ _ _ ⟨i,rfl,rfl,rfl,hx⟩
 refine⟨rfl,?_⟩
 (conv=>whnf);repeat' (first|(refine kA ?_;conv=>whnf)|(refine Br.mk (fun hc=>?_) fun hc=>?_<;>first|exact hc.elim|conv=>whnf)|(refine callB (letter1) (fun hc=>?_) (fun hc=>?_)<;>conv=>whnf)|(refine kB ?_))
 all_goals first
  |exact again.mk ⟨_,by omega,i+1,rfl,rfl,rfl,all_take_succ (by omega) hx (by unfold inName isLetter at *;omega)⟩
  |(refine bool_f fun h=>?_;have:=isName_at (i:=i) (by omega) h;unfold inName isLetter at *;omega)
  |(rename_i hc1;exact bool_t ⟨hs,by omega,fun c h=>by rw[hz]at h;cases h;assumption,by rw[take_all hc]at hx;exact hx⟩)
theorem name2 {s:List UInt8} (hl:s.length<2^63):PureP (findFn tab) 85 [.str s] (· =.bool (decide (isName s))):=by
 by_cases h0:s.length=0
 ·obtain rfl:s=[]:=List.length_eq_zero_iff.1 h0
  refine pureP_of rfl rfl ?_
  (conv=>whnf);repeat' (first|(refine kA ?_;conv=>whnf)|(refine Br.mk (fun hc=>?_) fun hc=>?_<;>first|exact hc.elim|conv=>whnf)  |(refine kB ?_))
  all_goals exact bool_f (by simp[isName])
 have hs:0<s.length:=by omega
 have hne:s≠[]:=by rintro rfl;simp at h0
 have hz:s[0]?=some s[0]:=List.getElem?_eq_getElem hs
 refine pureP_of rfl rfl ?_
 (conv=>whnf);repeat' (first|(refine kA ?_;conv=>whnf)|(refine Br.mk (fun hc=>?_) fun hc=>?_<;>first|exact hc.elim|conv=>whnf)|(refine callB (letter2) (fun hc=>?_) (fun hc=>?_)<;>conv=>whnf)|(refine kB ?_))
 all_goals first|exact absurd hc hne|exact bool_f (by unfold isName;omega)|exact bool_f fun h=>hc (isName_letter hs h)|skip
 refine loop_inv (fun m env s'=>∃i:Nat,m=s.length-i∧env=[(0,.str s),(3,.int .i64 i)]∧s'=⟨[],0⟩∧∀c∈s.take i,inName c.toNat) ?_ _ _ _ ⟨1,rfl,rfl,rfl,one_in hs (Or.inl hc)⟩
 rintro _ _ _ ⟨i,rfl,rfl,rfl,hx⟩
 refine⟨rfl,?_⟩
 (conv=>whnf);repeat' (first|(refine kA ?_;conv=>whnf)|(refine Br.mk (fun hc=>?_) fun hc=>?_<;>first|exact hc.elim|conv=>whnf)|(refine callB (letter2) (fun hc=>?_) (fun hc=>?_)<;>conv=>whnf)|(refine kB ?_))
 all_goals first
  |exact again.mk ⟨_,by omega,i+1,rfl,rfl,rfl,all_take_succ (by omega) hx (by unfold inName isLetter at *;omega)⟩
  |(refine bool_f fun h=>?_;have:=isName_at (i:=i) (by omega) h;unfold inName isLetter at *;omega)
  |(rename_i hc1;exact bool_t ⟨hs,by omega,fun c h=>by rw[hz]at h;cases h;assumption,by rw[take_all hc]at hx;exact hx⟩)
theorem pureP_ext {AP:Nat→Option AFn} {f:Nat} {sp:List AV→Sto→Option (AOut×Sto)} {args:List AV} {R:AV→Prop} {v v':AV} {s:Sto} (hf:AP f=some (.ext sp)) (h:sp args ⟨[],0⟩=some (.ok v,s)) (hs:snap s.σ snapDepth v=some v') (hR:R v'):PureP AP f args R:=
 ⟨v',⟨1,by simp only[pureCall,run,hf,h];exact hs⟩,hR⟩
theorem ixP {l:List UInt8}:PureP (findFn tab) 173 [.str l,.fn 174 []] (· =.int .i64 (firstBad l)):=
 pureP_ext rfl rfl rfl rfl
theorem firstBad_iff {l:List UInt8}:firstBad l<0↔∀c∈l,badB c=false:=by
 unfold firstBad
 cases h:List.findIdx? badB l with
 |none=>
  refine⟨fun _ c hc=>?_,fun _=>by decide⟩
  have:=List.findIdx?_eq_none_iff.1 h c hc
  simpa using this
 |some i=>
  refine⟨fun h=>?_,fun ha=>?_⟩
  ·simp at h;omega
  ·obtain⟨h1,h2,_⟩:=List.findIdx?_eq_some_iff_getElem.1 h
   rw[ha _ (List.getElem_mem h1)]at h2
   cases h2
def inR (n:Int):Prop:=-1000000000000000≤n∧n≤1000000000000000
instance (n:Int):Decidable (inR n):=by unfold inR;infer_instance
theorem inP {n:Int}:PureP (findFn tab) 171 [.int .i64 n] (· =.bool (decide (inR n))):=by
 refine pureP_of rfl rfl ?_
 (conv=>whnf);repeat' (first|(refine kA ?_;conv=>whnf)|(refine Br.mk (fun hc=>?_) fun hc=>?_<;>first|exact hc.elim|conv=>whnf)  |(refine kB ?_))
 all_goals first|exact bool_t (by unfold inR;omega)|exact bool_f (by unfold inR;omega)
theorem inP2 {n:Int}:PureP (findFn tab) 194 [.int .i64 n] (· =.bool (decide (inR n))):=by
 refine pureP_of rfl rfl ?_
 (conv=>whnf);repeat' (first|(refine kA ?_;conv=>whnf)|(refine Br.mk (fun hc=>?_) fun hc=>?_<;>first|exact hc.elim|conv=>whnf)  |(refine kB ?_))
 all_goals first|exact bool_t (by unfold inR;omega)|exact bool_f (by unfold inR;omega)
def okS (s:List UInt8):Prop:=s.length≤100∧∀c∈s,badB c=false
instance (s:List UInt8):Decidable (okS s):=by unfold okS;infer_instance
def leafV (v:GV):Prop:=v.d=0∧v.l.length=0∧(v.k=1∧v.s=[]∧(v.n=0∨v.n=1)∨v.k=2∧v.s=[]∧inR v.n∨v.k=4∧v.n=0∧okS v.s)
instance (v:GV):Decidable (leafV v):=by unfold leafV;infer_instance
def kindP (v:GV):Prop:=v.k=1∨v.k=2∨v.k=4
instance (v:GV):Decidable (kindP v):=by unfold kindP;infer_instance
theorem leaf_kind {v:GV} (h:leafV v):kindP v:=by unfold leafV at h;unfold kindP;omega
theorem leaf_1 {v:GV} (h:v.k=1) (h1:v.d=0) (h2:v.l.length=0) (h3:v.s=[]) (h4:v.n=0∨v.n=1):leafV v:=⟨h1,h2,.inl ⟨h,h3,h4⟩⟩
theorem leaf_2 {v:GV} (h:v.k=2) (h1:v.d=0) (h2:v.l.length=0) (h3:v.s=[]) (h4:inR v.n):leafV v:=⟨h1,h2,.inr (.inl ⟨h,h3,h4⟩)⟩
theorem leaf_4 {v:GV} (h:v.k=4) (h1:v.d=0) (h2:v.l.length=0) (h3:v.n=0) (h4:okS v.s):leafV v:=⟨h1,h2,.inr (.inr ⟨h,h3,h4⟩)⟩
theorem leaf_s {v:GV} (h:leafV v) (hk:v.k≠4):v.s=[]:=by
 obtain⟨_,_,h⟩:=h
 rcases h with h|h|h
 ·exact h.2.1
 ·exact h.2.1
 ·exact absurd h.1 hk
theorem leaf_n {v:GV} (h:leafV v) (hk:v.k=1):v.n=0∨v.n=1:=by
 obtain⟨_,_,h⟩:=h;omega
theorem leaf_r {v:GV} (h:leafV v) (hk:v.k=2):inR v.n:=by
 obtain⟨_,_,h⟩:=h
 rcases h with h|h|h<;>first|exact h.2.2|omega
theorem leaf_z {v:GV} (h:leafV v) (hk:v.k=4):v.n=0∧okS v.s:=by
 obtain⟨_,_,h⟩:=h
 rcases h with h|h|h<;>first|exact h.2|omega
theorem vld {v:GV} (hv:v.ok) (hk:kindP v) {n:Int}:PureP (findFn tab) 140 [v.av,.int .i64 n] (· =.bool (decide (leafV v))):=by
 obtain⟨g1,g2,g3,g4,g5,g6,g7⟩:=hv
 unfold Ln at g4 g5
 unfold kindP at hk
 refine pureP_of rfl rfl ?_
 (conv=>whnf);repeat' (first|(refine kA ?_;conv=>whnf)|(refine Br.mk (fun hc=>?_) fun hc=>?_<;>first|exact hc.elim|conv=>whnf)|(refine callB (inP (n:=v.n)) (fun hr=>?_) (fun hr=>?_)<;>conv=>whnf)|(refine callK_of (ixP (l:=v.s)) ?_;rintro _ rfl;conv=>whnf)|(refine kB ?_))
 all_goals first
  |exact bool_f (fun h=>by have:=h.2.1;omega)
  |(refine bool_t ?_;clear g7 g6;unfold leafV okS;rw[← firstBad_iff];first|(simp_all;done)|(simp_all;omega))
  |(refine bool_f ?_;clear g7 g6;unfold leafV okS;rw[← firstBad_iff];first|(simp_all;done)|(simp_all;omega))
theorem vldV {v:GV} (hv:v.ok) (hk:kindP v):PureP (findFn tab) 106 [v.av] (· =.bool (decide (leafV v))):=by
 refine pureP_of rfl rfl ?_
 (conv=>whnf);repeat' (first|(refine kA ?_;conv=>whnf)|(refine Br.mk (fun hc=>?_) fun hc=>?_<;>first|exact hc.elim|conv=>whnf)|(refine callB (vld (v:=v) hv hk) (fun hr=>?_) (fun hr=>?_)<;>conv=>whnf)|(refine kB ?_))
 all_goals first|exact bool_t (by assumption)|exact bool_f (by assumption)
theorem plain1 {v:GV} (hv:v.ok):PureP (findFn tab) 75 [v.av] (· =.bool (decide (leafV v))):=by
 refine pureP_of rfl rfl ?_
 (conv=>whnf);repeat' (first|(refine kA ?_;conv=>whnf)|(refine Br.mk (fun hc=>?_) fun hc=>?_<;>first|exact hc.elim|conv=>whnf)|(refine callB (vldV (v:=v) hv (by unfold kindP;omega)) (fun hr=>?_) (fun hr=>?_)<;>conv=>whnf)|(refine kB ?_))
 all_goals first|exact bool_t (by assumption)|exact bool_f (by assumption)|exact bool_f fun h=>absurd (leaf_kind h) (by unfold kindP;omega)
def allNames (l:List (List UInt8)):Prop:=∀s∈l,isName s
noncomputable instance (l:List (List UInt8)):Decidable (allNames l):=Classical.propDecidable _
def rises (l:List (List UInt8)):Prop:=∀j (h:j+1<l.length),(Op.bytesLess l[j+1] l[j]||l[j+1]==l[j])=false
noncomputable instance (l:List (List UInt8)):Decidable (rises l):=Classical.propDecidable _
theorem unn {s:List UInt8} (hl:s.length<2^63):PureP (findFn tab) 73 [.str s] (· =.bool (decide (¬ isName s))):=by
 refine pureP_of rfl rfl ?_
 (conv=>whnf);repeat' (first|(refine kA ?_;conv=>whnf)|(refine Br.mk (fun hc=>?_) fun hc=>?_<;>first|exact hc.elim|conv=>whnf)|(refine callB (name1 hl) (fun hr=>?_) (fun hr=>?_)<;>conv=>whnf)|(refine kB ?_))
 ·exact bool_f (fun h=>h hr)
 ·exact bool_t hr
theorem idxUn {l:List (List UInt8)} {nn:Bool} (hl:l.length<2^63) (hs:∀s∈l,s.length<2^63):PureP (findFn tab) 105 [.sl nn (vs .str l),.fn 73 []] (fun v=>∃z,v=.int .i64 z∧(0≤z↔¬allNames l)):=by
 refine pureP_of rfl rfl ?_
 (conv=>whnf);repeat' (first|(refine kA ?_;conv=>whnf)|(refine Br.mk (fun hc=>?_) fun hc=>?_<;>first|exact hc.elim|conv=>whnf)  |(refine kB ?_))
 refine loop_inv (fun m env s=>∃i:Nat,m=l.length-i∧env=[(0,.sl nn (vs .str l)),(1,.fn 73 []),(7,.int .i64 l.length),(8,.int .i64 i)]∧s=⟨[],0⟩∧∀s∈l.take i,isName s) ?_ _ _ _ ⟨0,rfl,by simp,rfl,by simp⟩
 rintro _ _ _ ⟨i,rfl,rfl,rfl,hx⟩
 refine⟨rfl,?_⟩
 (conv=>whnf);repeat' (first|(refine kA ?_;conv=>whnf)|(refine Br.mk (fun hc=>?_) fun hc=>?_<;>first|exact hc.elim|conv=>whnf)|(refine callB (unn (hs _ (List.getElem_mem (by omega)))) (fun hr=>?_) (fun hr=>?_)<;>conv=>whnf)|(refine kB ?_))
 ·exact⟨_,rfl,fun _ h=>hr (h _ (List.getElem_mem _)),fun _=>by omega⟩
 ·exact again.mk ⟨_,by omega,i+1,rfl,rfl,rfl,all_take_succ (by omega) hx (Decidable.of_not_not hr)⟩
 ·rw[take_all hc]at hx;exact⟨_,rfl,fun h=>absurd h (by omega),fun h=>absurd hx h⟩
theorem contUn {l:List (List UInt8)} {nn:Bool} (hl:l.length<2^63) (hs:∀s∈l,s.length<2^63):PureP (findFn tab) 72 [.sl nn (vs .str l),.fn 73 []] (· =.bool (decide (¬ allNames l))):=by
 refine pureP_of rfl rfl ?_
 (conv=>whnf);repeat' (first|(refine kA ?_;conv=>whnf)|(refine Br.mk (fun hc=>?_) fun hc=>?_<;>first|exact hc.elim|conv=>whnf)  |(refine kB ?_))
 refine callK_of (idxUn hl hs) ?_
 rintro _ ⟨z,rfl,hz⟩
 (conv=>whnf);repeat' (first|(refine kA ?_;conv=>whnf)|(refine Br.mk (fun hc=>?_) fun hc=>?_<;>first|exact hc.elim|conv=>whnf)  |(refine kB ?_))
 ·exact bool_t (hz.1 hc)
 ·exact bool_f (mt hz.2 hc)
theorem namesR {l:List (List UInt8)} {nn:Bool} (hl:l.length<2^63) (hs:∀s∈l,s.length<2^63):PureP (findFn tab) 120 [.sl nn (vs .str l)] (· =.bool (decide (allNames l))):=by
 refine pureP_of rfl rfl ?_
 (conv=>whnf);repeat' (first|(refine kA ?_;conv=>whnf)|(refine Br.mk (fun hc=>?_) fun hc=>?_<;>first|exact hc.elim|conv=>whnf)  |(refine kB ?_))
 refine loop_inv (fun m env s=>∃i:Nat,m=l.length-i∧env=[(0,.sl nn (vs .str l)),(3,.int .i64 i)]∧s=⟨[],0⟩∧∀s∈l.take i,isName s) ?_ _ _ _ ⟨0,rfl,rfl,rfl,by simp⟩
 rintro _ _ _ ⟨i,rfl,rfl,rfl,hx⟩
 refine⟨rfl,?_⟩
 (conv=>whnf);repeat' (first|(refine kA ?_;conv=>whnf)|(refine Br.mk (fun hc=>?_) fun hc=>?_<;>first|exact hc.elim|conv=>whnf)|(refine callB (name2 (hs _ (List.getElem_mem (by omega)))) (fun hr=>?_) (fun hr=>?_)<;>conv=>whnf)|(refine kB ?_))
 ·exact again.mk ⟨_,by omega,i+1,rfl,rfl,rfl,all_take_succ (by omega) hx hr⟩
 ·exact bool_f fun h=>hr (h _ (List.getElem_mem _))
 ·rw[take_all hc]at hx;exact bool_t hx
theorem rises1 {l:List (List UInt8)} {nn:Bool} (hl:l.length<2^63):PureP (findFn tab) 74 [.sl nn (vs .str l)] (· =.bool (decide (rises l))):=by
 refine pureP_of rfl rfl ?_
 (conv=>whnf);repeat' (first|(refine kA ?_;conv=>whnf)|(refine Br.mk (fun hc=>?_) fun hc=>?_<;>first|exact hc.elim|conv=>whnf)  |(refine kB ?_))
 refine loop_inv (fun m env s=>∃i:Nat,m=l.length-i∧env=[(0,.sl nn (vs .str l)),(3,.int .i64 (i+1:Nat))]∧s=⟨[],0⟩∧∀j (h:j+1<l.length),j<i→(Op.bytesLess l[j+1] l[j]||l[j+1]==l[j])=false) ?_ _ _ _ ⟨0,rfl,rfl,rfl,fun j _ h=>absurd h (by omega)⟩
 rintro _ _ _ ⟨i,rfl,rfl,rfl,hx⟩
 refine⟨rfl,?_⟩
 (conv=>whnf);repeat' (first|(refine kA ?_;conv=>whnf)|(refine Br.mk (fun hc=>?_) fun hc=>?_<;>first|exact hc.elim|conv=>whnf)|(apply nthK_intro;(· exact nVz i (by omega) (by omega));conv=>whnf)|(refine kB ?_))
 ·exact bool_f fun h=>by simp only[show (((i+1:Nat):Int)-1).toNat=i by omega]at hc;rw[h i (by omega)]at hc;cases hc
 ·simp only[show (((i+1:Nat):Int)-1).toNat=i by omega]at hc
  exact again.mk ⟨_,by omega,i+1,rfl,rfl,rfl,fun j h hj=>by
   by_cases e:j=i
   ·subst e;simpa using hc
   ·exact hx j h (by omega)⟩
 ·exact bool_t fun j h=>hx j h (by omega)
theorem rises2 {l:List (List UInt8)} {nn:Bool} (hl:l.length<2^63):PureP (findFn tab) 121 [.sl nn (vs .str l)] (· =.bool (decide (rises l))):=by
 refine pureP_of rfl rfl ?_
 (conv=>whnf);repeat' (first|(refine kA ?_;conv=>whnf)|(refine Br.mk (fun hc=>?_) fun hc=>?_<;>first|exact hc.elim|conv=>whnf)  |(refine kB ?_))
 refine loop_inv (fun m env s=>∃i:Nat,m=l.length-i∧env=[(0,.sl nn (vs .str l)),(3,.int .i64 (i+1:Nat))]∧s=⟨[],0⟩∧∀j (h:j+1<l.length),j<i→(Op.bytesLess l[j+1] l[j]||l[j+1]==l[j])=false) ?_ _ _ _ ⟨0,rfl,rfl,rfl,fun j _ h=>absurd h (by omega)⟩
 rintro _ _ _ ⟨i,rfl,rfl,rfl,hx⟩
 refine⟨rfl,?_⟩
 (conv=>whnf);repeat' (first|(refine kA ?_;conv=>whnf)|(refine Br.mk (fun hc=>?_) fun hc=>?_<;>first|exact hc.elim|conv=>whnf)|(apply nthK_intro;(· exact nVz i (by omega) (by omega));conv=>whnf)|(refine kB ?_))
 ·exact bool_f fun h=>by simp only[show (((i+1:Nat):Int)-1).toNat=i by omega]at hc;rw[h i (by omega)]at hc;cases hc
 ·simp only[show (((i+1:Nat):Int)-1).toNat=i by omega]at hc
  exact again.mk ⟨_,by omega,i+1,rfl,rfl,rfl,fun j h hj=>by
   by_cases e:j=i
   ·subst e;simpa using hc
   ·exact hx j h (by omega)⟩
 ·exact bool_t fun j h=>hx j h (by omega)
end AI
end Go.Proofs.YtgmgkkbpgndaaaaGreatDoor
