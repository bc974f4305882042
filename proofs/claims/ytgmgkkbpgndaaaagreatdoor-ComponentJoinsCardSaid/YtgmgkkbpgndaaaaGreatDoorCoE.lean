/- The law ComponentJoins, about the evaluator. -/
import Derived.Test.YtgmgkkbpgndaaaaGreatDoorCoJ
import Derived.Test.YtgmgkkbpgndaaaaGreatDoorCoL
set_option linter.unusedVariables false
set_option maxRecDepth 4000
namespace Go.Proofs.YtgmgkkbpgndaaaaGreatDoor
namespace AI
theorem c_pair:Tryz.prog.cellsOf 59=2:=by kernel_rfl
theorem len2P {l:List AV} (h:l.length=2):∃a b,l=[a,b]:=by
 rcases l with _|⟨a,_|⟨b,_|⟨c,r⟩⟩⟩<;>simp at h
 exact⟨a,b,rfl⟩
theorem like_pair {d:Nat} {a:AV} (h:like Tryz.prog d 59 a):∃p,a=pv p∧(I64 p.1∧I64 p.2):=by
 obtain⟨cs,rfl,h0⟩:=like_struct Tryz.underlying59 h
 obtain⟨d',rfl,g1,g2⟩:=likeC_struct Tryz.underlying59 h0
 rw[c_pair]at g1
 obtain⟨a,b,rfl⟩:=len2P g1
 clear g1
 simp only[List.forall_mem_cons]at g2
 obtain⟨f1,f2,_⟩:=g2
 simp only[c_int,List.drop_zero,List.drop_succ_cons,List.take_succ_cons,List.take_zero]at f1 f2
 obtain⟨s,e1,h1⟩:=likeC_i f1
 obtain⟨n,e2,h2⟩:=likeC_i f2
 cases e1;cases e2
 exact⟨(s,n),rfl,h1,h2⟩
theorem like_pairs {a:AV} (h:Like Tryz.prog 22 a):∃nn l,a=.sl nn (vs pv l)∧Ln l∧(nn=false→l=[])∧∀p∈l,I64 p.1∧I64 p.2:=by
 obtain⟨d,h⟩:=h
 obtain⟨nn,l,e,h1,h2,h3⟩:=like_map (f:=pv) (Q:=fun p=>I64 p.1∧I64 p.2) Tryz.underlying22 (fun d x h=>like_pair h) h
 exact⟨nn,l,e,ln_of h2,h1,h3⟩
theorem like_iZ {d:Nat} {a:AV} (h:like Tryz.prog d 3 a):∃n,a=.int .i64 n∧I64 n:=by
 obtain⟨k,e1,h1⟩:=like_int Tryz.underlying3 h
 exact⟨k,e1,i64_of h1⟩
theorem like_intV {a:AV} (h:Like Tryz.prog 3 a):∃n,a=.int .i64 n∧I64 n:=by
 obtain⟨d,h⟩:=h
 exact like_iZ h
theorem livesO:PureP (findFn tab) 7 [] (· =.bool true):=⟨.bool true,⟨60,lives_call⟩,rfl⟩
theorem joinB_len (l:List (Int×Int)) (a b:Int):(joinB l a b).length=l.length:=by
 unfold joinB
 split<;>simp
theorem law_joins:∀xs,likes Tryz.prog [22,3,3] xs→Calls1 (findFn tab) 3 xs ⟨[],0⟩ fun out _=>out=.ok (.bool true):=by
 intro xs h
 match xs,h with
 |[x,y,z],h=>
  obtain⟨h1,h2,h3,_⟩:=h
  obtain⟨nn,l,rfl,hl,hn,_⟩:=like_pairs h1
  obtain⟨a,rfl,_⟩:=like_intV h2
  obtain⟨b,rfl,_⟩:=like_intV h3
  unfold Ln at hl
  refine calls1_of rfl rfl ?_
  by_cases hc:l.length>100
  ·(conv=>whnf);repeat' (first|(refine callK_of livesO ?_;rintro _ rfl;conv=>whnf)|(refine kA ?_;conv=>whnf)|(refine Br.mk (fun hc=>?_) fun hc=>?_<;>first|exact hc.elim|conv=>whnf)|(refine kB ?_))
   all_goals first | rfl | (exfalso; omega) | (trace_state; fail "lj1")
  ·obtain⟨_,⟨b1,rfl⟩,p1⟩:=(joinP (l:=l) (a:=a) (b:=b) (nn:=nn) (by omega) hn).det
   obtain⟨_,⟨b2,rfl⟩,p2⟩:=(joinR (l:=l) (a:=a) (b:=b) (nn:=nn) (by omega)).det
   have p3:=sameL (l:=joinB l a b) (m:=joinB l a b) (b1:=b1) (b2:=b2) (by rw[joinB_len];omega) (by rw[joinB_len];omega)
   rw[decide_eq_true rfl]at p3
   (conv=>whnf);repeat' (first|(refine callK_of livesO ?_;rintro _ rfl;conv=>whnf)|(refine callK_of p1 ?_;rintro _ rfl;conv=>whnf)|(refine callK_of p2 ?_;rintro _ rfl;conv=>whnf)|(refine callK_of p3 ?_;rintro _ rfl;conv=>whnf)|(refine kA ?_;conv=>whnf)|(refine Br.mk (fun hc=>?_) fun hc=>?_<;>first|exact hc.elim|conv=>whnf)|(refine kB ?_))
   all_goals first | rfl | (exfalso; omega) | (trace_state; fail "lj2")
end AI
end Go.Proofs.YtgmgkkbpgndaaaaGreatDoor
