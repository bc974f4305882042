/- The hypergraph of a query: the program's, the reference's. The worked examples in the law: reckoned by the kernel. The law 'HyperOfs' of the evaluator. -/
import Derived.Test.YtlbjddhbkhgceaaGreatDoorMaf
import Derived.Test.YtlbjddhbkhgceaaGreatDoorGrCode
set_option linter.unusedVariables false
set_option maxRecDepth 4000
namespace Go.Proofs.YtlbjddhbkhgceaaGreatDoor
namespace AI
section
open Go.Sort
theorem chk_zero {c:GQ} (h:chkQ c=0):c.vars.length≤24∧c.atoms.length≤12∧∀a∈c.atoms,FormA a:=by
 unfold chkQ at h
 split at h
 ·omega
 ·split at h
  ·rename_i h0 h1
   exact⟨by omega,by omega,fun a ha=>(h1 a ha).1⟩
  ·omega
def OfQ (c:GQ) (v:AV):Prop:=∃(nn:Bool) (E:List (Bool×List Int)) (N:Int),v=.agg [.int .i64 N,.sl nn (iss E)]∧N=(if chkQ c=0 then(c.vars.length:Int)else 0)∧E.map (·.2)=(if chkQ c=0 then c.atoms.map (fun a=>varsI a.vars)else[])
theorem form_le {a:GT} (h:FormA a):a.vars.length≤3∧a.vars≠[]:=by
 have e:=h.2.1
 have h0:=h.1
 have h3:arityI a.k≤3:=by unfold arityI;split<;>(try split)<;>omega
 exact⟨by omega,fun hn=>by rw[hn]at e;exact h0 e.symm⟩
theorem ofR28 {c:GQ} (hq:c.ok):PureP (findFn tab) 7 [c.av] (OfQ c):=by
 by_cases h0:chkQ c=0
 ·obtain⟨z1,z2,z3⟩:=chk_zero h0
  refine pureP_of rfl rfl ?_
  (conv=>whnf);repeat' (first|(refine callK_of (checkR hq) ?_;rintro _ rfl;rw[h0];conv=>whnf)|(refine kA ?_;conv=>whnf)|(refine Br.mk (fun hc=>?_) fun hc=>?_<;>first|exact hc.elim|conv=>whnf)|(refine kB ?_))
  ·refine loop_inv (fun m env s=>∃(i gc:Nat),m=c.atoms.length-i∧i≤c.atoms.length∧env=[(1,.ref 0 0 0 0),(2,.ref 1 1 0 0),(3,.ref 2 2 0 0),(4,.int .i64 i)]∧((i=0∧s=⟨[.arr 0 2 true true [c.av],.arr 1 2 true true [.agg [.int .i64 0,.sl false []]],.arr 2 2 true true [.agg [.int .i64 c.vars.length,.sl false []]]],gc⟩)∨(∃ (ge:Nat) (E:List (Bool×List Int)),0<i∧E.length=i∧E.map (·.2)=(c.atoms.take i).map (fun a=>varsI a.vars)∧s=⟨[.arr 0 2 true true [c.av],.arr 1 2 true true [.agg [.int .i64 0,.sl false []]],.arr 2 2 true false [.agg [.int .i64 c.vars.length,.own 3 ge 0 i]],.arr ge 1 true true (iss E)],gc⟩))) ?_ _ _ _ ⟨0,_,rfl,by omega,rfl,.inl ⟨rfl,rfl⟩⟩
   rintro _ _ _ ⟨i,gc,rfl,hi,rfl,⟨rfl,rfl⟩|⟨ge,E,hi0,hE,hEm,rfl⟩⟩
   ·refine⟨rfl,?_⟩
    (conv=>whnf);repeat' (first|(refine callK_of (varsR (hq.2.2.2.2.2 _ (List.getElem_mem (by omega))) (form_le (z3 _ (List.getElem_mem (by omega)))).1) ?_;rintro _ ⟨bb,rfl⟩;conv=>whnf)|(refine kA ?_;conv=>whnf)|(refine Br.mk (fun hc=>?_) fun hc=>?_<;>first|exact hc.elim|conv=>whnf)|(refine kB ?_))
    ·have hi2:0<c.atoms.length:=by omega
     exact again.mk ⟨_,by omega,0+1,_,rfl,by omega,rfl,.inr ⟨_,[(bb,varsI (c.atoms[0]'hi2).vars)],by omega,rfl,by rw[List.take_succ_eq_append_getElem hi2];rfl,rfl⟩⟩
    ·have e:c.atoms=[]:=List.eq_nil_of_length_eq_zero (by omega)
     exact⟨false,[],_,rfl,by rw[if_pos h0],by rw[if_pos h0,e];rfl⟩
   ·refine⟨rfl,?_⟩
    (conv=>whnf);repeat' (first|(refine callK_of (varsR (hq.2.2.2.2.2 _ (List.getElem_mem (by omega))) (form_le (z3 _ (List.getElem_mem (by omega)))).1) ?_;rintro _ ⟨bb,rfl⟩;conv=>whnf)|(refine apS hE.symm (by omega) ?_;conv=>whnf)|(refine kA ?_;conv=>whnf)|(refine Br.mk (fun hc=>?_) fun hc=>?_<;>first|exact hc.elim|conv=>whnf)|(refine kB ?_))
    ·have hi2:i<c.atoms.length:=by omega
     exact again.mk ⟨_,by omega,i+1,_,rfl,by omega,rfl,.inr ⟨_,E++[(bb,varsI (c.atoms[i]'hi2).vars)],by omega,by simp[hE],by rw[List.take_succ_eq_append_getElem hi2,List.map_append,List.map_append,hEm];rfl,by rw[hE];rfl⟩⟩
    ·have e:c.atoms.take i=c.atoms:=List.take_of_length_le (by omega)
     rw[e]at hEm
     refine⟨true,E,_,?_,by rw[if_pos h0],by rw[if_pos h0,hEm]⟩
     have e2:sub (iss E) 0 i=iss E:=by simp only[sub,List.drop_zero];exact List.take_of_length_le (by simp[iss,hE])
     rw[e2]
 ·refine pureP_of rfl rfl ?_
  (conv=>whnf);repeat' (first|(refine callK_of (checkR hq) ?_;rintro _ rfl;conv=>whnf)|(refine kA ?_;conv=>whnf)|(refine Br.mk (fun hc=>?_) fun hc=>?_<;>first|exact hc.elim|conv=>whnf)|(refine kB ?_))
  all_goals first|(exfalso;omega)|exact⟨false,[],0,rfl,by rw[if_neg h0],by rw[if_neg h0];rfl⟩
theorem ofP28 {c:GQ} (hq:c.ok):PureP (findFn tab) 6 [c.av] (OfQ c):=by
 by_cases h0:chkQ c=0
 ·obtain⟨z1,z2,z3⟩:=chk_zero h0
  refine pureP_of rfl rfl ?_
  (conv=>whnf);repeat' (first|(refine callK_of (checkP hq) ?_;rintro _ rfl;rw[h0];conv=>whnf)|(refine kA ?_;conv=>whnf)|(refine Br.mk (fun hc=>?_) fun hc=>?_<;>first|exact hc.elim|conv=>whnf)|(refine kB ?_))
  ·refine loop_inv (fun m env s=>∃(i gc:Nat),m=c.atoms.length-i∧i≤c.atoms.length∧env=[(2,.ref 1 1 0 0),(3,.ref 2 2 0 0),(15,.sl c.an (vs GT.av c.atoms)),(16,.int .i64 c.atoms.length),(17,.int .i64 i)]∧((i=0∧s=⟨[.arr 0 2 true true [c.av],.arr 1 2 true true [.agg [.int .i64 0,.sl false []]],.arr 2 2 true true [.agg [.int .i64 c.vars.length,.sl false []]]],gc⟩)∨(∃ (ge:Nat) (X:Obj) (E:List (Bool×List Int)),0<i∧E.length=i∧E.map (·.2)=(c.atoms.take i).map (fun a=>varsI a.vars)∧s=⟨[.arr 0 2 true true [c.av],.arr 1 2 true true [.agg [.int .i64 0,.sl false []]],.arr 2 2 true false [.agg [.int .i64 c.vars.length,.own 4 ge 0 i]],X,.arr ge 1 true true (iss E)],gc⟩))) ?_ _ _ _ ⟨0,_,rfl,by omega,rfl,.inl ⟨rfl,rfl⟩⟩
   rintro _ _ _ ⟨i,gc,rfl,hi,rfl,⟨rfl,rfl⟩|⟨ge,X,E,hi0,hE,hEm,rfl⟩⟩
   ·refine⟨rfl,?_⟩
    (conv=>whnf);repeat' (first|(refine callK_of (varsP (hq.2.2.2.2.2 _ (List.getElem_mem (by omega))) (form_le (z3 _ (List.getElem_mem (by omega)))).1 (form_le (z3 _ (List.getElem_mem (by omega)))).2) ?_;rintro _ ⟨bb,rfl⟩;conv=>whnf)|(refine kA ?_;conv=>whnf)|(refine Br.mk (fun hc=>?_) fun hc=>?_<;>first|exact hc.elim|conv=>whnf)|(refine kB ?_))
    ·have hi2:0<c.atoms.length:=by omega
     exact again.mk ⟨_,by omega,0+1,_,rfl,by omega,rfl,.inr ⟨_,_,[(bb,varsI (c.atoms[0]'hi2).vars)],by omega,rfl,by rw[List.take_succ_eq_append_getElem hi2];rfl,rfl⟩⟩
    ·have e:c.atoms=[]:=List.eq_nil_of_length_eq_zero (by omega)
     exact⟨false,[],_,rfl,by rw[if_pos h0],by rw[if_pos h0,e];rfl⟩
   ·refine⟨rfl,?_⟩
    (conv=>whnf);repeat' (first|(refine callK_of (varsP (hq.2.2.2.2.2 _ (List.getElem_mem (by omega))) (form_le (z3 _ (List.getElem_mem (by omega)))).1 (form_le (z3 _ (List.getElem_mem (by omega)))).2) ?_;rintro _ ⟨bb,rfl⟩;conv=>whnf)|(refine apS hE.symm (by omega) ?_;conv=>whnf)|(refine kA ?_;conv=>whnf)|(refine Br.mk (fun hc=>?_) fun hc=>?_<;>first|exact hc.elim|conv=>whnf)|(refine kB ?_))
    ·have hi2:i<c.atoms.length:=by omega
     exact again.mk ⟨_,by omega,i+1,_,rfl,by omega,rfl,.inr ⟨_,_,E++[(bb,varsI (c.atoms[i]'hi2).vars)],by omega,by simp[hE],by rw[List.take_succ_eq_append_getElem hi2,List.map_append,List.map_append,hEm];rfl,by rw[hE];rfl⟩⟩
    ·have e:c.atoms.take i=c.atoms:=List.take_of_length_le (by omega)
     rw[e]at hEm
     refine⟨true,E,_,?_,by rw[if_pos h0],by rw[if_pos h0,hEm]⟩
     have e2:sub (iss E) 0 i=iss E:=by simp only[sub,List.drop_zero];exact List.take_of_length_le (by simp[iss,hE])
     rw[e2]
 ·refine pureP_of rfl rfl ?_
  (conv=>whnf);repeat' (first|(refine callK_of (checkP hq) ?_;rintro _ rfl;conv=>whnf)|(refine kA ?_;conv=>whnf)|(refine Br.mk (fun hc=>?_) fun hc=>?_<;>first|exact hc.elim|conv=>whnf)|(refine kB ?_))
  all_goals first|(exfalso;omega)|exact⟨false,[],0,rfl,by rw[if_neg h0],by rw[if_neg h0];rfl⟩
end
set_option maxRecDepth 100000 in
theorem lives_call:pureCall (run (findFn tab) 60) 4 []=some (.bool true):=by kernel_rfl
section
open Go.Sort
theorem livesT:PureP (findFn tab) 4 [] (· =.bool (decide True)):=⟨.bool true,⟨60,lives_call⟩,rfl⟩
theorem varsI_len (l:List Int):(varsI l).length≤l.length:=
 nodup_le ((varsI_pw l).imp fun h=>by rintro rfl;omega) fun x hx=>mem_varsI.1 hx
theorem ofQ_sm {c:GQ} {E:List (Bool×List Int)} (h:E.map (·.2)=(if chkQ c=0 then c.atoms.map (fun a=>varsI a.vars)else[])):SmE E:=by
 by_cases h0:chkQ c=0
 ·rw[if_pos h0]at h
  obtain⟨z1,z2,z3⟩:=chk_zero h0
  have hl:=congrArg List.length h
  simp only[List.length_map]at hl
  refine⟨by omega,fun p hp=>?_⟩
  have:p.2∈c.atoms.map (fun a=>varsI a.vars):=by rw[← h];exact List.mem_map_of_mem hp
  obtain⟨a,ha,e⟩:=List.mem_map.1 this
  rw[← e]
  have:=varsI_len a.vars
  have:=(form_le (z3 a ha)).1
  omega
 ·rw[if_neg h0]at h
  obtain rfl:E=[]:=by simpa using h
  exact⟨by simp,by simp⟩
theorem equalR {N M:Int} {na nb:Bool} {a b:List (Bool×List Int)} (ha:SmE a) (hb:SmE b):PureP (findFn tab) 5 [.agg [.int .i64 N,.sl na (iss a)],.agg [.int .i64 M,.sl nb (iss b)]] (· =.bool (decide (N=M∧a.map (·.2)=b.map (·.2)))):=by
 refine pureP_of rfl rfl ?_
 (conv=>whnf);repeat' (first|(refine callB (same11 ha hb) (fun hr=>?_) (fun hr=>?_)<;>conv=>whnf)|(refine kA ?_;conv=>whnf)|(refine Br.mk (fun hc=>?_) fun hc=>?_<;>first|exact hc.elim|conv=>whnf)|(refine kB ?_))
 all_goals first|exact bool_t ⟨by assumption,hr⟩|exact bool_f fun h=>hr h.2|exact bool_f fun h=>(by assumption:¬N=M) h.1
theorem law_ofsX:∀xs,likes Tryz.prog [25] xs→Calls1 (findFn tab) 3 xs ⟨[],0⟩ fun out _=>out=.ok (.bool true):=by
 intro xs h
 match xs,h with
 |[x],h=>
  obtain⟨h1,_⟩:=h
  obtain⟨c,rfl,hq⟩:=like_conj h1
  obtain⟨_,⟨na,a,N,rfl,hN,ha⟩,hP⟩:=(ofP28 hq).det
  obtain⟨_,⟨nb,b,M,rfl,hM,hb⟩,hR⟩:=(ofR28 hq).det
  have hq1:=hq.2.1
  have hq2:=hq.2.2.2.2.1
  unfold Ln at hq1 hq2
  refine calls1_of rfl rfl ?_
  (conv=>whnf);repeat' (first|(refine callK_of hP ?_;rintro _ rfl;conv=>whnf)|(refine callK_of hR ?_;rintro _ rfl;conv=>whnf)|(refine callB (equalR (ofQ_sm ha) (ofQ_sm hb)) (fun hr=>?_) (fun hr=>?_)<;>conv=>whnf)|(refine callB livesT (fun hl=>?_) (fun hl=>absurd trivial hl);conv=>whnf)|(refine kA ?_;conv=>whnf)|(refine Br.mk (fun hc=>?_) fun hc=>?_<;>first|exact hc.elim|conv=>whnf)|(refine kB ?_))
  all_goals first|rfl|exact absurd ⟨by rw[hN,hM],by rw[ha,hb]⟩ hr
end
end AI
end Go.Proofs.YtlbjddhbkhgceaaGreatDoor
