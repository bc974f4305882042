/- The law 'DeltaNorms' answers true for every input: the statement, from the law about the evaluator. Condition: the listed package variable holds what the card says (tied to the program's text by the given tie). -/
import Derived.Test.YthnehejdkajjhaaGreatDoorRows
import Derived.Test.YthnehejdkajjhaaGreatDoorCards
import Derived.Test.YthnehejdkajjhaaGreatDoorTie
import Derived.SevenTiedAt
import Derived.LaidLaws
import Derived.Handed
import Derived.Test.YthnehejdkajjhaaGreatDoorKMar
namespace Go.Proofs.YthnehejdkajjhaaGreatDoor
namespace FinDeltaNorms
set_option maxRecDepth 100000
open Go.ChangeShapes Go.WideShapes Go.ChangeAt Go.RowKit AI
theorem own:ownKnob Tryz.prog.godebug=none:=by kernel_rfl
theorem laidOut:laidOutB Tryz.prog=true:=by kernel_rfl
noncomputable def laidWorld (os:Os):World:=
 let w0:=World.holding Tryz.prog os ⟨#[],#[],[]⟩
 {w0 with heap:=w0.heap.modify 0 fun
  | .cells _ t frozen=>.cells #[.int .i64 0,.int .i64 1] t frozen
  |o=>o}
theorem laid_met (os:Os) (args:Array Value):laidMet Tryz.prog Rows.deltaNormsRow.laid ((laidWorld os).forCall (fun _ _=>0) ⟨#[],args,[]⟩).memory:=
 laidMet_of_run (ps:=[.cell 0 0,.cell 0 1]) 8 (by kernel_rfl) (by kernel_rfl) (by kernel_rfl)
theorem lifted (os:Os) (started:os.Started) (H:Type) (enc:TypeId×Value→H):
 ReturnsInHanded {} Tryz.checked os 4 .any (fun w args=>(Rows.deltaNormsSpec.pre enc Tryz.prog Tryz.f4 Rows.deltaNormsRow.domain false w args∧laidMet Tryz.prog Rows.deltaNormsRow.laid w)∧sizedMet enc Tryz.prog Tryz.f4 (OpenSpec.ofChange Rows.deltaNormsSpec) false w args)
  (Rows.deltaNormsSpec.post enc Tryz.prog Tryz.f4 false true false false):=by
 refine returnsInHanded_of_change_and (C:=Tryz.checked) (X:=fun w _=>laidMet Tryz.prog Rows.deltaNormsRow.laid w) (fun _ _ _ hh h=>h.of_heap hh) own started (by kernel_rfl) Tryz.func4
  (ChangeSpec.witness_at (enc:=enc) (C:=Tryz.checked) (os:=os) (X:=fun w _=>laidMet Tryz.prog Rows.deltaNormsRow.laid w) false (laidWorld os) #[.agg #[.slice none 0 0,.slice none 0 0,.int .i64 0,.int .i64 0],.slice none 0 0,.slice none 0 0] 8 rfl (by kernel_rfl) (by kernel_rfl) (by kernel_rfl) (by kernel_rfl) (by kernel_rfl) (laid_met os _)) ?_
 intro W base args ds gs before hval hW _ _ _ _
 exact Po (P:=Tryz.prog) (fun n=>Zv n) ⟨_,Tryz.func4,rfl,by decide⟩ [26,53,25,22,48,23,89,46,115,51,49,45,9,3] (by kernel_rfl) Rows.deltaNormsSpec rfl (fun ds hds=>by
  match ds,hds with
  |[_,_,_],_=>rfl) (tb:=4) (by kernel_rfl) (by kernel_rfl) laidOut (of_decide_eq_true (by kernel_rfl)) (of_decide_eq_true (by kernel_rfl)) hval hW (fun xs h=>Afd xs (by rw[Tryz.params4]at h;exact h))
theorem AU {a b:Bool} (h1:a=true) (h2:b=true):(a&&b)=true:=by rw[h1,h2];rfl
noncomputable abbrev pp:=Tryz.pinned.checked.prog
theorem j0:(Rows.deltaNormsRow.wf (OpenSpec.ofChange Rows.deltaNormsSpec))=true:=by kernel_rfl
theorem j1:(laidOutB pp)=true:=by kernel_rfl
theorem j2:(mapsRowed pp)=true:=by kernel_rfl
theorem j3:(Tryz.f4.params.all (pp.readableRec ·))=true:=by kernel_rfl
theorem j4:(namedTie pp Rows.deltaNormsRow.named Rows.deltaNormsSpec.vars)=true:=by kernel_rfl
theorem j5:((Rows.deltaNormsRow.stops==[]))=true:=by kernel_rfl
theorem j6:((pp.stops==[]))=true:=by kernel_rfl
theorem j7:((Rows.deltaNormsRow.knobs==[]))=true:=by kernel_rfl
theorem j8:((pp.stopKnobs==[]))=true:=by kernel_rfl
theorem j9:((Rows.deltaNormsRow.inPlace==pp.inPlace 4))=true:=by kernel_rfl
theorem j10:((Rows.deltaNormsRow.unfollowed==pp.unfollowed 4))=true:=by kernel_rfl
theorem j11:((Rows.deltaNormsRow.recurses==pp.recurses 4))=true:=by kernel_rfl
theorem j12:((Rows.deltaNormsRow.named==pp.varsNamed 4))=true:=by kernel_rfl
theorem j13:((Rows.deltaNormsRow.maps==(Tryz.f4.params.toList++Rows.deltaNormsSpec.plain.varTypes pp).any (pp.mapsRec ·)))=true:=by kernel_rfl
theorem j14:((Rows.deltaNormsRow.ifaces==(Tryz.f4.params.toList++Rows.deltaNormsSpec.plain.varTypes pp).any (pp.ifacesRec ·)))=true:=by kernel_rfl
theorem j15:((Rows.deltaNormsRow.mapsOut==pp.mapsAmong Tryz.f4.resultTypes.toList))=true:=by kernel_rfl
theorem j16:((Rows.deltaNormsRow.loops==(Tryz.f4.params.toList++Rows.deltaNormsSpec.plain.varTypes pp).any (pp.loopsFrom ·)))=true:=by kernel_rfl
theorem j17:((Rows.deltaNormsRow.wideKeys==(Tryz.f4.params.toList++Rows.deltaNormsSpec.plain.varTypes pp++Tryz.f4.resultTypes.toList).any (pp.wideKeysFrom ·)))=true:=by kernel_rfl
theorem j18:(Rows.deltaNormsSpec.vars.all (pp.varReadable ·))=true:=by kernel_rfl
theorem j19:(Tryz.f4.resultTypes.all (fun t=>pp.readableRec t&&decide (t<pp.types.size)))=true:=by kernel_rfl
theorem j20:((Rows.deltaNormsRow.ifacesOut==Tryz.f4.resultTypes.toList.any (pp.ifacesRec ·)))=true:=by kernel_rfl
theorem j21:((Rows.deltaNormsRow.loopsOut==Tryz.f4.resultTypes.toList.any (pp.loopsFrom ·)))=true:=by kernel_rfl
theorem j22:((Rows.deltaNormsRow.plainKeys==pp.plainKeys))=true:=by kernel_rfl
theorem j23:(Rows.deltaNormsRow.shortTexts.isNone)=true:=by kernel_rfl
theorem j24:(pp.stopsHeard)=true:=by kernel_rfl
theorem j25:(pp.mayEnter)=true:=by kernel_rfl
theorem j26:((Rows.deltaNormsRow.lifted==pp.liftsFinal))=true:=by kernel_rfl
theorem j27:((pp.make==some Rows.deltaNormsRow.make))=true:=by kernel_rfl
theorem j28:((Rows.deltaNormsRow.kinds==(if Rows.deltaNormsRow.domain.isEmpty then[]else Tryz.f4.params.toList.map fun t=>match pp.underlying t with|some (.int k)=>some k|_=>none)))=true:=by kernel_rfl
theorem j29:((Rows.deltaNormsRow.pinned==Rows.deltaNormsRow.pinnedBy))=true:=by kernel_rfl
theorem j30:((Rows.deltaNormsRow.veiled==(Tryz.f4.params.toList++Rows.deltaNormsSpec.plain.varTypes pp++Tryz.f4.resultTypes.toList).any (pp.veiledRec ·)))=true:=by kernel_rfl
theorem j31:(Rows.deltaNormsRow.veiledFits pp Tryz.f4.params.toList (Tryz.f4.params.toList++Rows.deltaNormsSpec.plain.varTypes pp++Tryz.f4.resultTypes.toList))=true:=by kernel_rfl
theorem Nu:joinedFacts Tryz.pinned.checked.prog 4 Tryz.f4 Rows.deltaNormsSpec Rows.deltaNormsRow=true:=by
 unfold joinedFacts
 exact(AU (AU (AU (AU (AU (AU (AU (AU (AU (AU (AU (AU (AU (AU (AU (AU (AU (AU (AU (AU (AU (AU (AU (AU (AU (AU (AU (AU (AU (AU (AU j0 j1) j2) j3) j4) j5) j6) j7) j8) j9) j10) j11) j12) j13) j14) j15) j16) j17) j18) j19) j20) j21) j22) j23) j24) j25) j26) j27) j28) j29) j30) j31)
theorem over:Rows.deltaNormsRow.holds Tryz.pinned (OpenSpec.ofChange Rows.deltaNormsSpec):=
 OpenClaim.holds_of_wide 4 Tryz.f4 rfl rfl rfl rfl rfl rfl rfl ⟨rfl,rfl,rfl,rfl,rfl⟩ rfl rfl rfl rfl rfl (by kernel_rfl) Tryz.func4 Nu
  (of_decide_eq_true (by kernel_rfl)) (by unfold Func.isWrapper;first|(rw [if_pos (by decide +kernel)];kernel_rfl)|(rw [if_neg (by decide +kernel)];exact⟨rfl,rfl⟩))
  (fun os started H enc _=>lifted os started H enc)
theorem proved:Rows.DeltaNormsCardSaid:=
 Claim7.holds_tied_plain_at .later [] [.data] true (true, "bea7bfae7039cc92039605ec21a6d8677b8aec67a04b3bf29817023e35519e43") true
  over (fun _ h=>by cases h) (by kernel_rfl) (fun _ h=>by cases h) deltaNorms_row_tie rfl ⟨rfl,rfl⟩ (by kernel_rfl) (by decide)
  (fun f fn h1 h2=>by
    obtain rfl:f=4:=Option.some.inj (h1.symm.trans (by kernel_rfl))
    obtain rfl:fn=Tryz.f4:=Option.some.inj (h2.symm.trans Tryz.func4)
    refine⟨by kernel_rfl,fun j t hj=>?_⟩
    match j,hj with
        |0,hj=>
         obtain rfl:t=25:=by rw[Tryz.params4]at hj;simpa using hj.symm
         exact(by kernel_rfl:Tryz.pinned.checked.prog.wantsStandIn 25=false)
        |1,hj=>
         obtain rfl:t=26:=by rw[Tryz.params4]at hj;simpa using hj.symm
         exact(by kernel_rfl:Tryz.pinned.checked.prog.wantsStandIn 26=false)
        |2,hj=>
         obtain rfl:t=26:=by rw[Tryz.params4]at hj;simpa using hj.symm
         exact(by kernel_rfl:Tryz.pinned.checked.prog.wantsStandIn 26=false)
        |j+3,hj=>rw[Tryz.params4]at hj;simp at hj)
  (by kernel_rfl)
#print axioms proved
end FinDeltaNorms
end Go.Proofs.YthnehejdkajjhaaGreatDoor
