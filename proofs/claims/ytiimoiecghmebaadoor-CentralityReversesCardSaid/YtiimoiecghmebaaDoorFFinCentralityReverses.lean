/- The law 'CentralityReverses' answers true for every input: the statement, from the law about the evaluator. Condition: the listed package variable holds what the card says (tied to the program's text by the given tie). -/
import Derived.Test.YtiimoiecghmebaaDoorRows
import Derived.Test.YtiimoiecghmebaaDoorCards
import Derived.Test.YtiimoiecghmebaaDoorTie
import Derived.SevenTiedAt
import Derived.LaidLaws
import Derived.Handed
import Derived.Test.YtiimoiecghmebaaDoorFMam
namespace Go.Proofs.YtiimoiecghmebaaDoor
namespace FinCentralityReverses
open Go.ChangeShapes Go.WideShapes Go.ChangeAt Go.RowKit AI
theorem WM {H:Type} {P:Program} {us:List TypeId} {gs:List (DataW H)}:∀{ts:List TypeId} {ds:List (DataW H)},(DataW.weightsEach P (ts++us) (ds++gs)).all (fun n=>decide (n≤reachBytes))=true→FU P ts ds
 |[],_,_=>by unfold FU;simp only[DataW.weightsEach];rfl
 |_::_,[],_=>by unfold FU;simp only[DataW.weightsEach];rfl
 |t::ts,d::ds,h=>by
  simp only[List.cons_append,DataW.weightsEach,List.all_append,Bool.and_eq_true]at h
  have:=WM (ts:=ts) (ds:=ds) h.2
  unfold FU at this ⊢
  simp only[DataW.weightsEach,List.all_append,Bool.and_eq_true]
  exact⟨h.1,this⟩
theorem own:ownKnob Tryd.prog.godebug=none:=by kernel_rfl
theorem laidOut:laidOutB Tryd.prog=true:=by kernel_rfl
noncomputable def laidWorld (os:Os):World:=
 let w0:=World.holding Tryd.prog os ⟨#[],#[],[]⟩
 {w0 with heap:=w0.heap.modify 0 fun
  | .cells _ t frozen=>.cells #[.int .i64 0,.int .i64 1] t frozen
  |o=>o}
set_option maxRecDepth 100000 in
theorem laid_met (os:Os) (args:Array Value):laidMet Tryd.prog Rows.centralityReversesRow.laid ((laidWorld os).forCall (fun _ _=>0) ⟨#[],args,[]⟩).memory:=
 laidMet_of_run (ps:=[.cell 0 0,.cell 0 1]) 8 (by kernel_rfl) (by kernel_rfl) (by kernel_rfl)
set_option maxRecDepth 100000 in
theorem lifted (os:Os) (started:os.Started) (H:Type) (enc:TypeId×Value→H):
 ReturnsInHanded {} Tryd.checked os 3 .any (fun w args=>(Rows.centralityReversesSpec.pre enc Tryd.prog Tryd.f3 Rows.centralityReversesRow.domain false w args∧laidMet Tryd.prog Rows.centralityReversesRow.laid w)∧sizedMet enc Tryd.prog Tryd.f3 (OpenSpec.ofChange Rows.centralityReversesSpec) false w args)
  (Rows.centralityReversesSpec.post enc Tryd.prog Tryd.f3 false true false false):=by
 refine returnsInHanded_of_change_and (C:=Tryd.checked) (X:=fun w _=>laidMet Tryd.prog Rows.centralityReversesRow.laid w) (fun _ _ _ hh h=>h.of_heap hh) own started (by kernel_rfl) Tryd.func3
  (ChangeSpec.witness_at (enc:=enc) (C:=Tryd.checked) (os:=os) (X:=fun w _=>laidMet Tryd.prog Rows.centralityReversesRow.laid w) false (laidWorld os) #[.agg #[.slice none 0 0,.slice none 0 0,.int .i64 0,.int .i64 0],.slice none 0 0] 8 rfl (by kernel_rfl) (by kernel_rfl) (by kernel_rfl) (by kernel_rfl) (by kernel_rfl) (laid_met os _)) ?_
 intro W base args ds gs before hval hW _ hwt _ _
 exact Aau (P:=Tryd.prog) (fun n=>AdL n) ⟨_,Tryd.func3,rfl,by decide⟩ [25,22,53,23,58,51,95,93,91,26,9,3] (by kernel_rfl) Rows.centralityReversesSpec rfl (fun ds hds=>by
  match ds,hds with
  |[_,_],_=>rfl) (tb:=4) (by kernel_rfl) (by kernel_rfl) laidOut (of_decide_eq_true (by kernel_rfl)) (of_decide_eq_true (by kernel_rfl)) hval hW (WM hwt) (fun xs h=>Vd xs (by rw[Tryd.params3]at h;exact h))
set_option maxRecDepth 100000 in
theorem over:Rows.centralityReversesRow.holds Tryd.pinned (OpenSpec.ofChange Rows.centralityReversesSpec):=
 OpenClaim.holds_of_wide 3 Tryd.f3 rfl rfl rfl rfl rfl rfl rfl ⟨rfl,rfl,rfl,rfl,rfl⟩ rfl rfl rfl rfl rfl (by kernel_rfl) Tryd.func3 (by kernel_rfl)
  (of_decide_eq_true (by kernel_rfl)) (by unfold Func.isWrapper;first|(rw [if_pos (by decide +kernel)];kernel_rfl)|(rw [if_neg (by decide +kernel)];exact⟨rfl,rfl⟩))
  (fun os started H enc _=>lifted os started H enc)
set_option maxRecDepth 100000 in
theorem proved:Rows.CentralityReversesCardSaid:=
 Claim7.holds_tied_plain_at .later [] [.data] true (true, "baf7f9ceb34d34c0cdca4fd38ca879db3ebc22e5777a0bdd4c687a909eecd75f") false
  over (fun _ h=>by cases h) (by kernel_rfl) (fun _ h=>by cases h) centralityReverses_row_tie rfl ⟨rfl,rfl⟩ (by kernel_rfl) (by decide)
  (fun f fn h1 h2=>by
    obtain rfl:f=3:=Option.some.inj (h1.symm.trans (by kernel_rfl))
    obtain rfl:fn=Tryd.f3:=Option.some.inj (h2.symm.trans Tryd.func3)
    refine⟨by kernel_rfl,fun j t hj=>?_⟩
    match j,hj with
        |0,hj=>
         obtain rfl:t=25:=by rw[Tryd.params3]at hj;simpa using hj.symm
         exact(by kernel_rfl:Tryd.pinned.checked.prog.wantsStandIn 25=false)
        |1,hj=>
         obtain rfl:t=26:=by rw[Tryd.params3]at hj;simpa using hj.symm
         exact(by kernel_rfl:Tryd.pinned.checked.prog.wantsStandIn 26=false)
        |j+2,hj=>rw[Tryd.params3]at hj;simp at hj)
  (by kernel_rfl)
#print axioms proved
end FinCentralityReverses
end Go.Proofs.YtiimoiecghmebaaDoor
