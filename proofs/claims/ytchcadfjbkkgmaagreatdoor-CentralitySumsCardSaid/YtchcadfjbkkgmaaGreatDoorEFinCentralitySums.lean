/- The law 'CentralitySums' answers true for every input: the statement, from the law about the evaluator. Condition: the listed package variable holds what the card says (tied to the program's text by the given tie). -/
import Derived.Test.YtchcadfjbkkgmaaGreatDoorRows
import Derived.Test.YtchcadfjbkkgmaaGreatDoorCards
import Derived.Test.YtchcadfjbkkgmaaGreatDoorTie
import Derived.SevenTiedAt
import Derived.LaidLaws
import Derived.Handed
import Derived.Test.YtchcadfjbkkgmaaGreatDoorEMap
namespace Go.Proofs.YtchcadfjbkkgmaaGreatDoor
namespace FinCentralitySums
open Go.ChangeShapes Go.WideShapes Go.ChangeAt Go.RowKit AI
theorem Xo {H:Type} {P:Program} {us:List TypeId} {gs:List (DataW H)}:∀{ts:List TypeId} {ds:List (DataW H)},(DataW.weightsEach P (ts++us) (ds++gs)).all (fun n=>decide (n≤reachBytes))=true→F7 P ts ds
 |[],_,_=>by unfold F7;simp only[DataW.weightsEach];rfl
 |_::_,[],_=>by unfold F7;simp only[DataW.weightsEach];rfl
 |t::ts,d::ds,h=>by
  simp only[List.cons_append,DataW.weightsEach,List.all_append,Bool.and_eq_true]at h
  have:=Xo (ts:=ts) (ds:=ds) h.2
  unfold F7 at this ⊢
  simp only[DataW.weightsEach,List.all_append,Bool.and_eq_true]
  exact⟨h.1,this⟩
theorem own:ownKnob Tryz.prog.godebug=none:=by kernel_rfl
theorem laidOut:laidOutB Tryz.prog=true:=by kernel_rfl
noncomputable def laidWorld (os:Os):World:=
 let w0:=World.holding Tryz.prog os ⟨#[],#[],[]⟩
 {w0 with heap:=w0.heap.modify 0 fun
  | .cells _ t frozen=>.cells #[.int .i64 0,.int .i64 1] t frozen
  |o=>o}
set_option maxRecDepth 100000 in
theorem laid_met (os:Os) (args:Array Value):laidMet Tryz.prog Rows.centralitySumsRow.laid ((laidWorld os).forCall (fun _ _=>0) ⟨#[],args,[]⟩).memory:=
 laidMet_of_run (ps:=[.cell 0 0,.cell 0 1]) 8 (by kernel_rfl) (by kernel_rfl) (by kernel_rfl)
set_option maxRecDepth 100000 in
theorem lifted (os:Os) (started:os.Started) (H:Type) (enc:TypeId×Value→H):
 ReturnsInHanded {} Tryz.checked os 4 .any (fun w args=>(Rows.centralitySumsSpec.pre enc Tryz.prog Tryz.f4 Rows.centralitySumsRow.domain false w args∧laidMet Tryz.prog Rows.centralitySumsRow.laid w)∧sizedMet enc Tryz.prog Tryz.f4 (OpenSpec.ofChange Rows.centralitySumsSpec) false w args)
  (Rows.centralitySumsSpec.post enc Tryz.prog Tryz.f4 false true false false):=by
 refine returnsInHanded_of_change_and (C:=Tryz.checked) (X:=fun w _=>laidMet Tryz.prog Rows.centralitySumsRow.laid w) (fun _ _ _ hh h=>h.of_heap hh) own started (by kernel_rfl) Tryz.func4
  (ChangeSpec.witness_at (enc:=enc) (C:=Tryz.checked) (os:=os) (X:=fun w _=>laidMet Tryz.prog Rows.centralitySumsRow.laid w) false (laidWorld os) #[.agg #[.slice none 0 0,.slice none 0 0,.int .i64 0,.int .i64 0],.slice none 0 0] 8 rfl (by kernel_rfl) (by kernel_rfl) (by kernel_rfl) (by kernel_rfl) (by kernel_rfl) (laid_met os _)) ?_
 intro W base args ds gs before hval hW _ hwt _ _
 exact Aa9 (P:=Tryz.prog) (fun n=>Ae4 n) ⟨_,Tryz.func4,rfl,by decide⟩ [25,22,45,23,117,43,151,50,48,26,9,3] (by kernel_rfl) Rows.centralitySumsSpec rfl (fun ds hds=>by
  match ds,hds with
  |[_,_],_=>rfl) (tb:=4) (by kernel_rfl) (by kernel_rfl) laidOut (of_decide_eq_true (by kernel_rfl)) (of_decide_eq_true (by kernel_rfl)) hval hW (Xo hwt) (fun xs h=>AcT xs (by rw[Tryz.params4]at h;exact h))
set_option maxRecDepth 100000 in
theorem over:Rows.centralitySumsRow.holds Tryz.pinned (OpenSpec.ofChange Rows.centralitySumsSpec):=
 OpenClaim.holds_of_wide 4 Tryz.f4 rfl rfl rfl rfl rfl rfl rfl ⟨rfl,rfl,rfl,rfl,rfl⟩ rfl rfl rfl rfl rfl (by kernel_rfl) Tryz.func4 (by kernel_rfl)
  (of_decide_eq_true (by kernel_rfl)) (by unfold Func.isWrapper;first|(rw [if_pos (by decide +kernel)];kernel_rfl)|(rw [if_neg (by decide +kernel)];exact⟨rfl,rfl⟩))
  (fun os started H enc _=>lifted os started H enc)
set_option maxRecDepth 100000 in
theorem proved:Rows.CentralitySumsCardSaid:=
 Claim7.holds_tied_plain_at .later [] [.data] true (true, "b3741a251c474fafa756504988c867517369de149ab062a276ef9ab13a422691") true
  over (fun _ h=>by cases h) (by kernel_rfl) (fun _ h=>by cases h) centralitySums_row_tie rfl ⟨rfl,rfl⟩ (by kernel_rfl) (by decide)
  (fun f fn h1 h2=>by
    obtain rfl:f=4:=Option.some.inj (h1.symm.trans (by kernel_rfl))
    obtain rfl:fn=Tryz.f4:=Option.some.inj (h2.symm.trans Tryz.func4)
    refine⟨by kernel_rfl,fun j t hj=>?_⟩
    match j,hj with
        |0,hj=>
         obtain rfl:t=25:=by rw[Tryz.params4]at hj;simpa using hj.symm
         exact(by kernel_rfl:Tryz.pinned.checked.prog.wantsStandIn 25=false)
        |1,hj=>
         obtain rfl:t=26:=by rw[Tryz.params4]at hj;simpa using hj.symm
         exact(by kernel_rfl:Tryz.pinned.checked.prog.wantsStandIn 26=false)
        |j+2,hj=>rw[Tryz.params4]at hj;simp at hj)
  (by kernel_rfl)
#print axioms proved
end FinCentralitySums
end Go.Proofs.YtchcadfjbkkgmaaGreatDoor
