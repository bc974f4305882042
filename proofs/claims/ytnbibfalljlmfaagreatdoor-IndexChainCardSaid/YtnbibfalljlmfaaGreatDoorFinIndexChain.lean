/- The law 'IndexChain' answers true for every input: the statement, from the law about the evaluator. Condition: the listed package variable holds what the card says (tied to the program's text by the given tie). -/
import Derived.Test.YtnbibfalljlmfaaGreatDoorRows
import Derived.Test.YtnbibfalljlmfaaGreatDoorCards
import Derived.Test.YtnbibfalljlmfaaGreatDoorTie
import Derived.SevenTiedAt
import Derived.LaidLaws
import Derived.Handed
import Derived.Test.YtnbibfalljlmfaaGreatDoorIxCh
namespace Go.Proofs.YtnbibfalljlmfaaGreatDoor
namespace FinIndexChain
open Go.ChangeShapes Go.WideShapes Go.ChangeAt Go.RowKit AI
theorem own:ownKnob Tryz.prog.godebug=none:=by kernel_rfl
theorem laidOut:laidOutB Tryz.prog=true:=by kernel_rfl
noncomputable def laidWorld (os:Os):World:=
  let w0:=World.holding Tryz.prog os ⟨#[],#[],[]⟩
  {w0 with heap:=w0.heap.modify 0 fun
      | .cells _ t frozen=>.cells #[.int .i64 0,.int .i64 1] t frozen
      |o=>o}
set_option maxRecDepth 100000 in
theorem laid_met (os:Os) (args:Array Value):laidMet Tryz.prog Rows.indexChainRow.laid ((laidWorld os).forCall (fun _ _=>0) ⟨#[],args,[]⟩).memory:=
  laidMet_of_run (ps:=[.cell 0 0,.cell 0 1]) 8 (by kernel_rfl) (by kernel_rfl) (by kernel_rfl)
set_option maxRecDepth 100000 in
theorem lifted (os:Os) (started:os.Started) (H:Type) (enc:TypeId×Value→H):
    ReturnsInHanded {} Tryz.checked os 8 .any (fun w args=>(Rows.indexChainSpec.pre enc Tryz.prog Tryz.f8 Rows.indexChainRow.domain false w args∧laidMet Tryz.prog Rows.indexChainRow.laid w)∧sizedMet enc Tryz.prog Tryz.f8 (OpenSpec.ofChange Rows.indexChainSpec) false w args)
      (Rows.indexChainSpec.post enc Tryz.prog Tryz.f8 false true false false):=by
  refine returnsInHanded_of_change_and (C:=Tryz.checked) (X:=fun w _=>laidMet Tryz.prog Rows.indexChainRow.laid w) (fun _ _ _ hh h=>h.of_heap hh) own started (by kernel_rfl) Tryz.func8
    (ChangeSpec.witness_at (enc:=enc) (C:=Tryz.checked) (os:=os) (X:=fun w _=>laidMet Tryz.prog Rows.indexChainRow.laid w) false (laidWorld os) #[.agg #[.slice none 0 0,.slice none 0 0,.int .i64 0,.int .i64 0],.slice none 0 0] 8 rfl (by kernel_rfl) (by kernel_rfl) (by kernel_rfl) (by kernel_rfl) (by kernel_rfl) (laid_met os _)) ?_
  intro W base args ds gs before hval hW _ _ _ _
  exact law_calls (P:=Tryz.prog) (fun n=>AWq n) ⟨_,Tryz.func8,rfl,by decide⟩ [30,50,25,22,64,23,81,62,79,48,46,61,9,3] (by kernel_rfl) Rows.indexChainSpec rfl (fun ds hds=>by
      match ds,hds with
      |[_,_],_=>rfl) (tb:=4) (by kernel_rfl) (by kernel_rfl) laidOut (of_decide_eq_true (by kernel_rfl)) (of_decide_eq_true (by kernel_rfl)) hval hW (fun xs h=>law_chain xs (by rw[Tryz.params8]at h;exact h))
set_option maxRecDepth 100000 in
theorem over:Rows.indexChainRow.holds Tryz.pinned (OpenSpec.ofChange Rows.indexChainSpec):=
  OpenClaim.holds_of_wide 8 Tryz.f8 rfl rfl rfl rfl rfl rfl rfl ⟨rfl,rfl,rfl,rfl,rfl⟩ rfl rfl rfl rfl rfl (by kernel_rfl) Tryz.func8 (by kernel_rfl)
    (of_decide_eq_true (by kernel_rfl)) (by unfold Func.isWrapper;first|(rw [if_pos (by decide +kernel)];kernel_rfl)|(rw [if_neg (by decide +kernel)];exact⟨rfl,rfl⟩))
    (fun os started H enc _=>lifted os started H enc)
set_option maxRecDepth 100000 in
theorem proved:Rows.IndexChainCardSaid:=
  Claim7.holds_tied_plain_at .later [] [.data] true (true, "88e62577704524afcac682c925280cecbe42bf7241044ff06c0c1fab3859b864") true
    over (fun _ h=>by cases h) (by kernel_rfl) (fun _ h=>by cases h) indexChain_row_tie rfl ⟨rfl,rfl⟩ (by kernel_rfl) (by decide)
    (fun f fn h1 h2=>by
      obtain rfl:f=8:=Option.some.inj (h1.symm.trans (by kernel_rfl))
      obtain rfl:fn=Tryz.f8:=Option.some.inj (h2.symm.trans Tryz.func8)
      refine⟨by kernel_rfl,fun j t hj=>?_⟩
      match j,hj with
        | 0,hj=>
          obtain rfl:t=25:=by rw[Tryz.params8]at hj;simpa using hj.symm
          exact(by kernel_rfl:Tryz.pinned.checked.prog.wantsStandIn 25=false)
        | 1,hj=>
          obtain rfl:t=30:=by rw[Tryz.params8]at hj;simpa using hj.symm
          exact(by kernel_rfl:Tryz.pinned.checked.prog.wantsStandIn 30=false)
        |j+2,hj=>rw[Tryz.params8]at hj;simp at hj)
    (by kernel_rfl)
#print axioms proved
end FinIndexChain
end Go.Proofs.YtnbibfalljlmfaaGreatDoor
