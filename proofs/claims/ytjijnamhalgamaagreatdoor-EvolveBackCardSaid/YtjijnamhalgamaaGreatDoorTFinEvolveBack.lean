/- The law 'EvolveBack' answers true for every input: the statement, from the law about the evaluator. Condition: the listed package variable holds what the card says (tied to the program's text by the given tie). -/
import Derived.Test.YtjijnamhalgamaaGreatDoorRows
import Derived.Test.YtjijnamhalgamaaGreatDoorCards
import Derived.Test.YtjijnamhalgamaaGreatDoorTie
import Derived.SevenTiedAt
import Derived.LaidLaws
import Derived.Handed
import Derived.Test.YtjijnamhalgamaaGreatDoorTMaw
namespace Go.Proofs.YtjijnamhalgamaaGreatDoor
namespace FinEvolveBack
open Go.ChangeShapes Go.WideShapes Go.ChangeAt Go.RowKit AI
theorem Yl {H:Type} {P:Program} {us:List TypeId} {gs:List (DataW H)}:∀{ts:List TypeId} {ds:List (DataW H)},(DataW.weightsEach P (ts++us) (ds++gs)).all (fun n=>decide (n≤reachBytes))=true→G6 P ts ds
 |[],_,_=>by unfold G6;simp only[DataW.weightsEach];rfl
 |_::_,[],_=>by unfold G6;simp only[DataW.weightsEach];rfl
 |t::ts,d::ds,h=>by
  simp only[List.cons_append,DataW.weightsEach,List.all_append,Bool.and_eq_true]at h
  have:=Yl (ts:=ts) (ds:=ds) h.2
  unfold G6 at this ⊢
  simp only[DataW.weightsEach,List.all_append,Bool.and_eq_true]
  exact⟨h.1,this⟩
theorem own:ownKnob Tryz.prog.godebug=none:=by kernel_rfl
theorem laidOut:laidOutB Tryz.prog=true:=by kernel_rfl
noncomputable def laidWorld (os:Os):World:=
 let w0:=World.holding Tryz.prog os ⟨#[],#[],[]⟩
 {w0 with heap:=w0.heap.modify 0 fun
  | .cells _ t frozen=>.cells #[.int .i64 0,.int .i64 1] t frozen
  |o=>o}
set_option maxRecDepth 100000 in
theorem laid_met (os:Os) (args:Array Value):laidMet Tryz.prog Rows.evolveBackRow.laid ((laidWorld os).forCall (fun _ _=>0) ⟨#[],args,[]⟩).memory:=
 laidMet_of_run (ps:=[.cell 0 0,.cell 0 1]) 8 (by kernel_rfl) (by kernel_rfl) (by kernel_rfl)
set_option maxRecDepth 100000 in
theorem lifted (os:Os) (started:os.Started) (H:Type) (enc:TypeId×Value→H):
 ReturnsInHanded {} Tryz.checked os 6 .any (fun w args=>(Rows.evolveBackSpec.pre enc Tryz.prog Tryz.f6 Rows.evolveBackRow.domain false w args∧laidMet Tryz.prog Rows.evolveBackRow.laid w)∧sizedMet enc Tryz.prog Tryz.f6 (OpenSpec.ofChange Rows.evolveBackSpec) false w args)
  (Rows.evolveBackSpec.post enc Tryz.prog Tryz.f6 false true false false):=by
 refine returnsInHanded_of_change_and (C:=Tryz.checked) (X:=fun w _=>laidMet Tryz.prog Rows.evolveBackRow.laid w) (fun _ _ _ hh h=>h.of_heap hh) own started (by kernel_rfl) Tryz.func6
  (ChangeSpec.witness_at (enc:=enc) (C:=Tryz.checked) (os:=os) (X:=fun w _=>laidMet Tryz.prog Rows.evolveBackRow.laid w) false (laidWorld os) #[.agg #[.slice none 0 0,.slice none 0 0,.int .i64 0,.int .i64 0],.slice none 0 0,.agg #[.int .i64 0,.string ⟨#[]⟩,.string ⟨#[]⟩,.string ⟨#[]⟩,.int .i64 0,.int .i64 0,.int .i64 0,.string ⟨#[]⟩,.slice none 0 0,.int .i64 0,.int .i64 0,.string ⟨#[]⟩,.string ⟨#[]⟩,.string ⟨#[]⟩,.string ⟨#[]⟩]] 8 rfl (by kernel_rfl) (by kernel_rfl) (by kernel_rfl) (by kernel_rfl) (by kernel_rfl) (laid_met os _)) ?_
 intro W base args ds gs before hval hW _ hwt _ _
 exact Ab9 (P:=Tryz.prog) (fun n=>Akn n) ⟨_,Tryz.func6,rfl,by decide⟩ [26,44,46,25,22,57,23,87,55,131,42,40,54,9,3] (by kernel_rfl) Rows.evolveBackSpec rfl (fun ds hds=>by
  match ds,hds with
  |[_,_,_],_=>rfl) (tb:=4) (by kernel_rfl) (by kernel_rfl) laidOut (of_decide_eq_true (by kernel_rfl)) (of_decide_eq_true (by kernel_rfl)) hval hW (Yl hwt) (fun xs h=>law_back xs (by rw[Tryz.params6]at h;exact h))
theorem DI {a b:Bool} (h1:a=true) (h2:b=true):(a&&b)=true:=by rw[h1,h2];rfl
set_option maxRecDepth 100000
noncomputable abbrev pp:=Tryz.pinned.checked.prog
theorem j0:(Rows.evolveBackRow.wf (OpenSpec.ofChange Rows.evolveBackSpec))=true:=by kernel_rfl
theorem j1:(laidOutB pp)=true:=by kernel_rfl
theorem j2:(mapsRowed pp)=true:=by kernel_rfl
theorem j3:(Tryz.f6.params.all (pp.readableRec ·))=true:=by kernel_rfl
theorem j4:(namedTie pp Rows.evolveBackRow.named Rows.evolveBackSpec.vars)=true:=by kernel_rfl
theorem j5:((Rows.evolveBackRow.stops==[]))=true:=by kernel_rfl
theorem j6:((pp.stops==[]))=true:=by kernel_rfl
theorem j7:((Rows.evolveBackRow.knobs==[]))=true:=by kernel_rfl
theorem j8:((pp.stopKnobs==[]))=true:=by kernel_rfl
theorem j9:((Rows.evolveBackRow.inPlace==pp.inPlace 6))=true:=by kernel_rfl
theorem j10:((Rows.evolveBackRow.unfollowed==pp.unfollowed 6))=true:=by kernel_rfl
theorem j11:((Rows.evolveBackRow.recurses==pp.recurses 6))=true:=by kernel_rfl
theorem j12:((Rows.evolveBackRow.named==pp.varsNamed 6))=true:=by kernel_rfl
theorem j13:((Rows.evolveBackRow.maps==(Tryz.f6.params.toList++Rows.evolveBackSpec.plain.varTypes pp).any (pp.mapsRec ·)))=true:=by kernel_rfl
theorem j14:((Rows.evolveBackRow.ifaces==(Tryz.f6.params.toList++Rows.evolveBackSpec.plain.varTypes pp).any (pp.ifacesRec ·)))=true:=by kernel_rfl
theorem j15:((Rows.evolveBackRow.mapsOut==pp.mapsAmong Tryz.f6.resultTypes.toList))=true:=by kernel_rfl
theorem j16:((Rows.evolveBackRow.loops==(Tryz.f6.params.toList++Rows.evolveBackSpec.plain.varTypes pp).any (pp.loopsFrom ·)))=true:=by kernel_rfl
theorem j17:((Rows.evolveBackRow.wideKeys==(Tryz.f6.params.toList++Rows.evolveBackSpec.plain.varTypes pp++Tryz.f6.resultTypes.toList).any (pp.wideKeysFrom ·)))=true:=by kernel_rfl
theorem j18:(Rows.evolveBackSpec.vars.all (pp.varReadable ·))=true:=by kernel_rfl
theorem j19:(Tryz.f6.resultTypes.all (fun t=>pp.readableRec t&&decide (t<pp.types.size)))=true:=by kernel_rfl
theorem j20:((Rows.evolveBackRow.ifacesOut==Tryz.f6.resultTypes.toList.any (pp.ifacesRec ·)))=true:=by kernel_rfl
theorem j21:((Rows.evolveBackRow.loopsOut==Tryz.f6.resultTypes.toList.any (pp.loopsFrom ·)))=true:=by kernel_rfl
theorem j22:((Rows.evolveBackRow.plainKeys==pp.plainKeys))=true:=by kernel_rfl
theorem j23:(Rows.evolveBackRow.shortTexts.isNone)=true:=by kernel_rfl
theorem j24:(pp.stopsHeard)=true:=by kernel_rfl
theorem j25:(pp.mayEnter)=true:=by kernel_rfl
theorem j26:((Rows.evolveBackRow.lifted==pp.liftsFinal))=true:=by kernel_rfl
theorem j27:((pp.make==some Rows.evolveBackRow.make))=true:=by kernel_rfl
theorem j28:((Rows.evolveBackRow.kinds==(if Rows.evolveBackRow.domain.isEmpty then[]else Tryz.f6.params.toList.map fun t=>match pp.underlying t with|some (.int k)=>some k|_=>none)))=true:=by kernel_rfl
theorem j29:((Rows.evolveBackRow.pinned==Rows.evolveBackRow.pinnedBy))=true:=by kernel_rfl
theorem j30:((Rows.evolveBackRow.veiled==(Tryz.f6.params.toList++Rows.evolveBackSpec.plain.varTypes pp++Tryz.f6.resultTypes.toList).any (pp.veiledRec ·)))=true:=by kernel_rfl
theorem j31:(Rows.evolveBackRow.veiledFits pp Tryz.f6.params.toList (Tryz.f6.params.toList++Rows.evolveBackSpec.plain.varTypes pp++Tryz.f6.resultTypes.toList))=true:=by kernel_rfl
theorem Ahi:joinedFacts Tryz.pinned.checked.prog 6 Tryz.f6 Rows.evolveBackSpec Rows.evolveBackRow=true:=by
 unfold joinedFacts
 exact(DI (DI (DI (DI (DI (DI (DI (DI (DI (DI (DI (DI (DI (DI (DI (DI (DI (DI (DI (DI (DI (DI (DI (DI (DI (DI (DI (DI (DI (DI (DI j0 j1) j2) j3) j4) j5) j6) j7) j8) j9) j10) j11) j12) j13) j14) j15) j16) j17) j18) j19) j20) j21) j22) j23) j24) j25) j26) j27) j28) j29) j30) j31)
theorem over:Rows.evolveBackRow.holds Tryz.pinned (OpenSpec.ofChange Rows.evolveBackSpec):=
 OpenClaim.holds_of_wide 6 Tryz.f6 rfl rfl rfl rfl rfl rfl rfl ⟨rfl,rfl,rfl,rfl,rfl⟩ rfl rfl rfl rfl rfl (by kernel_rfl) Tryz.func6 Ahi
  (of_decide_eq_true (by kernel_rfl)) (by unfold Func.isWrapper;first|(rw [if_pos (by decide +kernel)];kernel_rfl)|(rw [if_neg (by decide +kernel)];exact⟨rfl,rfl⟩))
  (fun os started H enc _=>lifted os started H enc)
theorem proved:Rows.EvolveBackCardSaid:=
 Claim7.holds_tied_plain_at .later [] [.data] true (true, "ed2980beb3bcfcbb4f111031628910c4d1dfcabb2f65547721763095efe41835") true
  over (fun _ h=>by cases h) (by kernel_rfl) (fun _ h=>by cases h) evolveBack_row_tie rfl ⟨rfl,rfl⟩ (by kernel_rfl) (by decide)
  (fun f fn h1 h2=>by
    obtain rfl:f=6:=Option.some.inj (h1.symm.trans (by kernel_rfl))
    obtain rfl:fn=Tryz.f6:=Option.some.inj (h2.symm.trans Tryz.func6)
    refine⟨by kernel_rfl,fun j t hj=>?_⟩
    match j,hj with
        |0,hj=>
         obtain rfl:t=25:=by rw[Tryz.params6]at hj;simpa using hj.symm
         exact(by kernel_rfl:Tryz.pinned.checked.prog.wantsStandIn 25=false)
        |1,hj=>
         obtain rfl:t=26:=by rw[Tryz.params6]at hj;simpa using hj.symm
         exact(by kernel_rfl:Tryz.pinned.checked.prog.wantsStandIn 26=false)
        |2,hj=>
         obtain rfl:t=46:=by rw[Tryz.params6]at hj;simpa using hj.symm
         exact(by kernel_rfl:Tryz.pinned.checked.prog.wantsStandIn 46=false)
        |j+3,hj=>rw[Tryz.params6]at hj;simp at hj)
  (by kernel_rfl)
#print axioms proved
end FinEvolveBack
end Go.Proofs.YtjijnamhalgamaaGreatDoor
