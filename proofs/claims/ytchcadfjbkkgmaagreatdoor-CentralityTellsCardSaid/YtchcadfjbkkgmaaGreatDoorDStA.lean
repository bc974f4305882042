/- The deferred closure of a step of an editor: it takes back what is raised. -/
import Derived.Test.YtchcadfjbkkgmaaGreatDoorChecked
import Derived.WalkKit
import Derived.Defers
import Derived.Recover
namespace Go.Proofs.YtchcadfjbkkgmaaGreatDoor
namespace AI
open Go.RowKit
theorem stepIdle (x:Value) (w:World):CallsD Tryz.prog 152 #[x] .returning w fun e u' w'=>(∃ v,e=.returned v)∧u'=.returning∧w'=w:=by
 refine callsD_of_wpS Tryz.func152 rfl fun c₀ cs hu=>?_
 apply wpS_seq
 apply wpS_region
 simp[wpOpsS,go_sem,recoverD,hu,Tryz.ntmps152,Exit.thenS]
 apply wpS_seq
 apply wpS_region
 simp[wpOpsS,go_sem,Exit.thenS]
 refine wpS_cond (t:=false) (by simp[Act.eval,Array.replicate]) ?_
 simp only[Bool.false_eq_true,if_false]
 refine wpS_of_wp (wp_skip ?_)
 cases c₀
 simp_all [bodyPostS,results,Tryz.results152]
theorem AfE (v:Value) (w:World):(Instr.typeAssert (.iface 199 v) 20 199 true).run Tryz.prog w=.ok (.tuple #[v,.bool true]) w:=by kernel_rfl
set_option maxRecDepth 100000 in
set_option maxHeartbeats 1000000 in
theorem Zm (p:Addr) (k:IntKind) (n:Int) (w:World) (old:Value) (hc:w.cell? p=some old) (hz:w.frozen? p=false):
 CallsD Tryz.prog 152 #[.pointer (some p)] (.panicking [{v:=.iface 199 (.int k n),recovered:=false}]) w fun e u' w''=>(∃ v,e=.returned v)∧u'=.panicking [{v:=.iface 199 (.int k n),recovered:=true}]∧w''=w.setCell p (.int k n):=by
 refine callsD_of_wpS Tryz.func152 rfl fun c₀ cs hu=>?_
 apply wpS_seq
 apply wpS_region
 simp[wpOpsS,go_sem,recoverD,hu,Tryz.ntmps152,Exit.thenS]
 apply wpS_seq
 apply wpS_region
 simp[wpOpsS,go_sem,Exit.thenS]
 refine wpS_cond (t:=true) (by simp[Act.eval,Array.replicate]) ?_
 simp only[if_true]
 apply wpS_seq
 apply wpS_seq
 apply wpS_region
 simp[wpOpsS,go_sem,Exit.thenS,AfE]
 apply wpS_seq
 apply wpS_region
 simp[wpOpsS,go_sem,Exit.thenS]
 refine wpS_cond (t:=true) (by simp[Act.eval,Array.replicate]) ?_
 simp only[if_true]
 apply wpS_seq
 apply wpS_region
 simp[wpOpsS,go_sem,Exit.thenS,hc,hz]
 refine wpS_of_wp (wp_ret ?_)
 cases c₀
 simp_all [bodyPostS,results,Tryz.results152,Exit.thenS]
theorem AbR (x:Value) (k:IntKind) (n:Int) (w w':World) (hx:∃p old,x=.pointer (some p)∧w.cell? p=some old∧w.frozen? p=false) (hst:(Instr.storeAt 34 x (.int k n)).run Tryz.prog w=.ok () w'):
 CallsD Tryz.prog 152 #[x] (.panicking [{v:=.iface 199 (.int k n),recovered:=false}]) w fun e u' w''=>(∃ v,e=.returned v)∧u'=.panicking [{v:=.iface 199 (.int k n),recovered:=true}]∧w''=w':=by
 obtain⟨p,old,rfl,hc,hz⟩:=hx
 have e:w'=w.setCell p (.int k n):=by
  simp[Instr.storeAt,go_sem,hc,hz]at hst
  exact hst.symm
 subst e
 exact Zm p k n w old hc hz
end AI
end Go.Proofs.YtchcadfjbkkgmaaGreatDoor
