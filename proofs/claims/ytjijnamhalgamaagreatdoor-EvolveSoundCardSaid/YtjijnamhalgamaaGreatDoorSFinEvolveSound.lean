/- The law 'EvolveSound' answers true for every input: the statement, from the law about the evaluator. Condition: the listed package variable holds what the card says (tied to the program's text by the given tie). -/
import Derived.Test.YtjijnamhalgamaaGreatDoorRows
import Derived.Test.YtjijnamhalgamaaGreatDoorCards
import Derived.Test.YtjijnamhalgamaaGreatDoorTie
import Derived.SevenTiedAt
import Derived.LaidLaws
import Derived.Handed
import Derived.Test.YtjijnamhalgamaaGreatDoorSMaw
namespace Go.Proofs.YtjijnamhalgamaaGreatDoor
namespace FinEvolveSound
open Go.ChangeShapes Go.WideShapes Go.ChangeAt Go.RowKit AI
theorem Yl {H:Type} {P:Program} {us:List TypeId} {gs:List (DataW H)}:∀{ts:List TypeId} {ds:List (DataW H)},(DataW.weightsEach P (ts++us) (ds++gs)).all (fun n=>decide (n≤reachBytes))=true→G6 P ts ds
 |[],_,_=>by unfold G6;simp only[DataW.weightsEach];rfl
 |_::_,[],_=>by unfold G6;simp only[DataW.weightsEach];rfl
 |t::ts,d::ds,h=>by
  simp only[List.cons_append,DataW.weightsEach,List.all_append,Bool.and_eq_true]at h
  have:=Yl (ts:=ts) (ds:=ds) h.2
  unfold G6 at this ⊢
  simp only[DataW.weightsEach,List.all_append,Bool.and_eq_true]
  exact⟨h.1,this⟩
theorem own:ownKnob Tryz.prog.godebug=none:=by kernel_rfl
theorem laidOut:laidOutB Tryz.prog=true:=by kernel_rfl
noncomputable def laidWorld (os:Os):World:=
 let w0:=World.holding Tryz.prog os ⟨#[],#[],[]⟩
 {w0 with heap:=w0.heap.modify 0 fun
  | .cells _ t frozen=>.cells #[.int .i64 0,.int .i64 1] t frozen
  |o=>o}
set_option maxRecDepth 100000 in
theorem laid_met (os:Os) (args:Array Value):laidMet Tryz.prog Rows.evolveSoundRow.laid ((laidWorld os).forCall (fun _ _=>0) ⟨#[],args,[]⟩).memory:=
 laidMet_of_run (ps:=[.cell 0 0,.cell 0 1]) 8 (by kernel_rfl) (by kernel_rfl) (by kernel_rfl)
set_option maxRecDepth 100000 in
theorem lifted (os:Os) (started:os.Started) (H:Type) (enc:TypeId×Value→H):
 ReturnsInHanded {} Tryz.checked os 4 .any (fun w args=>(Rows.evolveSoundSpec.pre enc Tryz.prog Tryz.f4 Rows.evolveSoundRow.domain false w args∧laidMet Tryz.prog Rows.evolveSoundRow.laid w)∧sizedMet enc Tryz.prog Tryz.f4 (OpenSpec.ofChange Rows.evolveSoundSpec) false w args)
  (Rows.evolveSoundSpec.post enc Tryz.prog Tryz.f4 false true false false):=by
 refine returnsInHanded_of_change_and (C:=Tryz.checked) (X:=fun w _=>laidMet Tryz.prog Rows.evolveSoundRow.laid w) (fun _ _ _ hh h=>h.of_heap hh) own started (by kernel_rfl) Tryz.func4
  (ChangeSpec.witness_at (enc:=enc) (C:=Tryz.checked) (os:=os) (X:=fun w _=>laidMet Tryz.prog Rows.evolveSoundRow.laid w) false (laidWorld os) #[.agg #[.slice none 0 0,.slice none 0 0,.int .i64 0,.int .i64 0],.slice none 0 0,.slice none 0 0] 8 rfl (by kernel_rfl) (by kernel_rfl) (by kernel_rfl) (by kernel_rfl) (by kernel_rfl) (laid_met os _)) ?_
 intro W base args ds gs before hval hW _ hwt _ _
 exact Ab9 (P:=Tryz.prog) (fun n=>Akn n) ⟨_,Tryz.func4,rfl,by decide⟩ [26,44,27,46,25,22,57,23,87,55,131,42,40,54,9,3] (by kernel_rfl) Rows.evolveSoundSpec rfl (fun ds hds=>by
  match ds,hds with
  |[_,_,_],_=>rfl) (tb:=4) (by kernel_rfl) (by kernel_rfl) laidOut (of_decide_eq_true (by kernel_rfl)) (of_decide_eq_true (by kernel_rfl)) hval hW (Yl hwt) (fun xs h=>Aca xs (by rw[Tryz.params4]at h;exact h))
theorem DI {a b:Bool} (h1:a=true) (h2:b=true):(a&&b)=true:=by rw[h1,h2];rfl
set_option maxRecDepth 100000 in
theorem j0:(Rows.evolveSoundRow.wf (OpenSpec.ofChange Rows.evolveSoundSpec))=true:=by kernel_rfl
set_option maxRecDepth 100000 in
theorem j1:(laidOutB Tryz.pinned.checked.prog)=true:=by kernel_rfl
set_option maxRecDepth 100000 in
theorem j2:(mapsRowed Tryz.pinned.checked.prog)=true:=by kernel_rfl
set_option maxRecDepth 100000 in
theorem j3:(Tryz.f4.params.all (Tryz.pinned.checked.prog.readableRec ·))=true:=by kernel_rfl
set_option maxRecDepth 100000 in
theorem j4:(namedTie Tryz.pinned.checked.prog Rows.evolveSoundRow.named Rows.evolveSoundSpec.vars)=true:=by kernel_rfl
set_option maxRecDepth 100000 in
theorem j5:((Rows.evolveSoundRow.stops==[]))=true:=by kernel_rfl
set_option maxRecDepth 100000 in
theorem j6:((Tryz.pinned.checked.prog.stops==[]))=true:=by kernel_rfl
set_option maxRecDepth 100000 in
theorem j7:((Rows.evolveSoundRow.knobs==[]))=true:=by kernel_rfl
set_option maxRecDepth 100000 in
theorem j8:((Tryz.pinned.checked.prog.stopKnobs==[]))=true:=by kernel_rfl
set_option maxRecDepth 100000 in
theorem j9:((Rows.evolveSoundRow.inPlace==Tryz.pinned.checked.prog.inPlace 4))=true:=by kernel_rfl
set_option maxRecDepth 100000 in
theorem j10:((Rows.evolveSoundRow.unfollowed==Tryz.pinned.checked.prog.unfollowed 4))=true:=by kernel_rfl
set_option maxRecDepth 100000 in
theorem j11:((Rows.evolveSoundRow.recurses==Tryz.pinned.checked.prog.recurses 4))=true:=by kernel_rfl
set_option maxRecDepth 100000 in
theorem j12:((Rows.evolveSoundRow.named==Tryz.pinned.checked.prog.varsNamed 4))=true:=by kernel_rfl
set_option maxRecDepth 100000 in
theorem j13:((Rows.evolveSoundRow.maps==(Tryz.f4.params.toList++Rows.evolveSoundSpec.plain.varTypes Tryz.pinned.checked.prog).any (Tryz.pinned.checked.prog.mapsRec ·)))=true:=by kernel_rfl
set_option maxRecDepth 100000 in
theorem j14:((Rows.evolveSoundRow.ifaces==(Tryz.f4.params.toList++Rows.evolveSoundSpec.plain.varTypes Tryz.pinned.checked.prog).any (Tryz.pinned.checked.prog.ifacesRec ·)))=true:=by kernel_rfl
set_option maxRecDepth 100000 in
theorem j15:((Rows.evolveSoundRow.mapsOut==Tryz.pinned.checked.prog.mapsAmong Tryz.f4.resultTypes.toList))=true:=by kernel_rfl
set_option maxRecDepth 100000 in
theorem j16:((Rows.evolveSoundRow.loops==(Tryz.f4.params.toList++Rows.evolveSoundSpec.plain.varTypes Tryz.pinned.checked.prog).any (Tryz.pinned.checked.prog.loopsFrom ·)))=true:=by kernel_rfl
set_option maxRecDepth 100000 in
theorem j17:((Rows.evolveSoundRow.wideKeys==(Tryz.f4.params.toList++Rows.evolveSoundSpec.plain.varTypes Tryz.pinned.checked.prog++Tryz.f4.resultTypes.toList).any (Tryz.pinned.checked.prog.wideKeysFrom ·)))=true:=by kernel_rfl
set_option maxRecDepth 100000 in
theorem j18:(Rows.evolveSoundSpec.vars.all (Tryz.pinned.checked.prog.varReadable ·))=true:=by kernel_rfl
set_option maxRecDepth 100000 in
theorem j19:(Tryz.f4.resultTypes.all (fun t=>Tryz.pinned.checked.prog.readableRec t&&decide (t<Tryz.pinned.checked.prog.types.size)))=true:=by kernel_rfl
set_option maxRecDepth 100000 in
theorem j20:((Rows.evolveSoundRow.ifacesOut==Tryz.f4.resultTypes.toList.any (Tryz.pinned.checked.prog.ifacesRec ·)))=true:=by kernel_rfl
set_option maxRecDepth 100000 in
theorem j21:((Rows.evolveSoundRow.loopsOut==Tryz.f4.resultTypes.toList.any (Tryz.pinned.checked.prog.loopsFrom ·)))=true:=by kernel_rfl
set_option maxRecDepth 100000 in
theorem j22:((Rows.evolveSoundRow.plainKeys==Tryz.pinned.checked.prog.plainKeys))=true:=by kernel_rfl
set_option maxRecDepth 100000 in
theorem j23:(Rows.evolveSoundRow.shortTexts.isNone)=true:=by kernel_rfl
set_option maxRecDepth 100000 in
theorem j24:(Tryz.pinned.checked.prog.stopsHeard)=true:=by kernel_rfl
set_option maxRecDepth 100000 in
theorem j25:(Tryz.pinned.checked.prog.mayEnter)=true:=by kernel_rfl
set_option maxRecDepth 100000 in
theorem j26:((Rows.evolveSoundRow.lifted==Tryz.pinned.checked.prog.liftsFinal))=true:=by kernel_rfl
set_option maxRecDepth 100000 in
theorem j27:((Tryz.pinned.checked.prog.make==some Rows.evolveSoundRow.make))=true:=by kernel_rfl
set_option maxRecDepth 100000 in
theorem j28:((Rows.evolveSoundRow.kinds==(if Rows.evolveSoundRow.domain.isEmpty then[]else Tryz.f4.params.toList.map fun t=>match Tryz.pinned.checked.prog.underlying t with|some (.int k)=>some k|_=>none)))=true:=by kernel_rfl
set_option maxRecDepth 100000 in
theorem j29:((Rows.evolveSoundRow.pinned==Rows.evolveSoundRow.pinnedBy))=true:=by kernel_rfl
set_option maxRecDepth 100000 in
theorem j30:((Rows.evolveSoundRow.veiled==(Tryz.f4.params.toList++Rows.evolveSoundSpec.plain.varTypes Tryz.pinned.checked.prog++Tryz.f4.resultTypes.toList).any (Tryz.pinned.checked.prog.veiledRec ·)))=true:=by kernel_rfl
set_option maxRecDepth 100000 in
theorem j31:(Rows.evolveSoundRow.veiledFits Tryz.pinned.checked.prog Tryz.f4.params.toList (Tryz.f4.params.toList++Rows.evolveSoundSpec.plain.varTypes Tryz.pinned.checked.prog++Tryz.f4.resultTypes.toList))=true:=by kernel_rfl
set_option maxRecDepth 100000 in
theorem Ahi:joinedFacts Tryz.pinned.checked.prog 4 Tryz.f4 Rows.evolveSoundSpec Rows.evolveSoundRow=true:=by
 unfold joinedFacts
 exact(DI (DI (DI (DI (DI (DI (DI (DI (DI (DI (DI (DI (DI (DI (DI (DI (DI (DI (DI (DI (DI (DI (DI (DI (DI (DI (DI (DI (DI (DI (DI j0 j1) j2) j3) j4) j5) j6) j7) j8) j9) j10) j11) j12) j13) j14) j15) j16) j17) j18) j19) j20) j21) j22) j23) j24) j25) j26) j27) j28) j29) j30) j31)
set_option maxRecDepth 100000 in
theorem over:Rows.evolveSoundRow.holds Tryz.pinned (OpenSpec.ofChange Rows.evolveSoundSpec):=
 OpenClaim.holds_of_wide 4 Tryz.f4 rfl rfl rfl rfl rfl rfl rfl ⟨rfl,rfl,rfl,rfl,rfl⟩ rfl rfl rfl rfl rfl (by kernel_rfl) Tryz.func4 Ahi
  (of_decide_eq_true (by kernel_rfl)) (by unfold Func.isWrapper;first|(rw [if_pos (by decide +kernel)];kernel_rfl)|(rw [if_neg (by decide +kernel)];exact⟨rfl,rfl⟩))
  (fun os started H enc _=>lifted os started H enc)
set_option maxRecDepth 100000 in
theorem proved:Rows.EvolveSoundCardSaid:=
 Claim7.holds_tied_plain_at .later [] [.data] true (true, "ed2980beb3bcfcbb4f111031628910c4d1dfcabb2f65547721763095efe41835") true
  over (fun _ h=>by cases h) (by kernel_rfl) (fun _ h=>by cases h) evolveSound_row_tie rfl ⟨rfl,rfl⟩ (by kernel_rfl) (by decide)
  (fun f fn h1 h2=>by
    obtain rfl:f=4:=Option.some.inj (h1.symm.trans (by kernel_rfl))
    obtain rfl:fn=Tryz.f4:=Option.some.inj (h2.symm.trans Tryz.func4)
    refine⟨by kernel_rfl,fun j t hj=>?_⟩
    match j,hj with
        |0,hj=>
         obtain rfl:t=25:=by rw[Tryz.params4]at hj;simpa using hj.symm
         exact(by kernel_rfl:Tryz.pinned.checked.prog.wantsStandIn 25=false)
        |1,hj=>
         obtain rfl:t=26:=by rw[Tryz.params4]at hj;simpa using hj.symm
         exact(by kernel_rfl:Tryz.pinned.checked.prog.wantsStandIn 26=false)
        |2,hj=>
         obtain rfl:t=27:=by rw[Tryz.params4]at hj;simpa using hj.symm
         exact(by kernel_rfl:Tryz.pinned.checked.prog.wantsStandIn 27=false)
        |j+3,hj=>rw[Tryz.params4]at hj;simp at hj)
  (by kernel_rfl)
#print axioms proved
end FinEvolveSound
end Go.Proofs.YtjijnamhalgamaaGreatDoor
