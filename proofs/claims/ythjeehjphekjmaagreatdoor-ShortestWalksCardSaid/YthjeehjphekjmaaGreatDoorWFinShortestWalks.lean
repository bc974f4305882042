/- The law 'ShortestWalks' answers true for every input: the statement, from the law about the evaluator. Condition: the listed package variable holds what the card says (tied to the program's text by the given tie). -/
import Derived.Test.YthjeehjphekjmaaGreatDoorRows
import Derived.Test.YthjeehjphekjmaaGreatDoorCards
import Derived.Test.YthjeehjphekjmaaGreatDoorTie
import Derived.SevenTiedAt
import Derived.LaidLaws
import Derived.Handed
import Derived.Test.YthjeehjphekjmaaGreatDoorWMaq
namespace Go.Proofs.YthjeehjphekjmaaGreatDoor
namespace FinShortestWalks
open Go.ChangeShapes Go.WideShapes Go.ChangeAt Go.RowKit AI
theorem Gf {H:Type} {P:Program} {us:List TypeId} {gs:List (DataW H)}:∀{ts:List TypeId} {ds:List (DataW H)},(DataW.weightsEach P (ts++us) (ds++gs)).all (fun n=>decide (n≤reachBytes))=true→Dp P ts ds
 |[],_,_=>by unfold Dp;simp only[DataW.weightsEach];rfl
 |_::_,[],_=>by unfold Dp;simp only[DataW.weightsEach];rfl
 |t::ts,d::ds,h=>by
  simp only[List.cons_append,DataW.weightsEach,List.all_append,Bool.and_eq_true]at h
  have:=Gf (ts:=ts) (ds:=ds) h.2
  unfold Dp at this ⊢
  simp only[DataW.weightsEach,List.all_append,Bool.and_eq_true]
  exact⟨h.1,this⟩
theorem own:ownKnob Tryz.prog.godebug=none:=by kernel_rfl
theorem laidOut:laidOutB Tryz.prog=true:=by kernel_rfl
noncomputable def laidWorld (os:Os):World:=
 let w0:=World.holding Tryz.prog os ⟨#[],#[],[]⟩
 {w0 with heap:=w0.heap.modify 0 fun
  | .cells _ t frozen=>.cells #[.int .i64 0,.int .i64 1] t frozen
  |o=>o}
set_option maxRecDepth 100000 in
theorem laid_met (os:Os) (args:Array Value):laidMet Tryz.prog Rows.shortestWalksRow.laid ((laidWorld os).forCall (fun _ _=>0) ⟨#[],args,[]⟩).memory:=
 laidMet_of_run (ps:=[.cell 0 0,.cell 0 1]) 8 (by kernel_rfl) (by kernel_rfl) (by kernel_rfl)
set_option maxRecDepth 100000 in
theorem lifted (os:Os) (started:os.Started) (H:Type) (enc:TypeId×Value→H):
 ReturnsInHanded {} Tryz.checked os 7 .any (fun w args=>(Rows.shortestWalksSpec.pre enc Tryz.prog Tryz.f7 Rows.shortestWalksRow.domain false w args∧laidMet Tryz.prog Rows.shortestWalksRow.laid w)∧sizedMet enc Tryz.prog Tryz.f7 (OpenSpec.ofChange Rows.shortestWalksSpec) false w args)
  (Rows.shortestWalksSpec.post enc Tryz.prog Tryz.f7 false true false false):=by
 refine returnsInHanded_of_change_and (C:=Tryz.checked) (X:=fun w _=>laidMet Tryz.prog Rows.shortestWalksRow.laid w) (fun _ _ _ hh h=>h.of_heap hh) own started (by kernel_rfl) Tryz.func7
  (ChangeSpec.witness_at (enc:=enc) (C:=Tryz.checked) (os:=os) (X:=fun w _=>laidMet Tryz.prog Rows.shortestWalksRow.laid w) false (laidWorld os) #[.agg #[.slice none 0 0,.slice none 0 0,.int .i64 0,.int .i64 0],.agg #[.int .i64 0,.int .i64 0,.int .i64 0,.int .i64 0,.int .i64 0,.slice none 0 0]] 8 rfl (by kernel_rfl) (by kernel_rfl) (by kernel_rfl) (by kernel_rfl) (by kernel_rfl) (laid_met os _)) ?_
 intro W base args ds gs before hval hW _ hwt _ _
 exact Nr (P:=Tryz.prog) (fun n=>RU n) ⟨_,Tryz.func7,rfl,by decide⟩ [28,25,22,52,23,88,50,146,45,42,26,9,3] (by kernel_rfl) Rows.shortestWalksSpec rfl (fun ds hds=>by
  match ds,hds with
  |[_,_],_=>rfl) (tb:=4) (by kernel_rfl) (by kernel_rfl) laidOut (of_decide_eq_true (by kernel_rfl)) (of_decide_eq_true (by kernel_rfl)) hval hW (Gf hwt) (fun xs h=>law_walks xs (by rw[Tryz.params7]at h;exact h))
theorem AA {a b:Bool} (h1:a=true) (h2:b=true):(a&&b)=true:=by rw[h1,h2];rfl
set_option maxRecDepth 100000 in
theorem j0:(Rows.shortestWalksRow.wf (OpenSpec.ofChange Rows.shortestWalksSpec))=true:=by kernel_rfl
set_option maxRecDepth 100000 in
theorem j1:(laidOutB Tryz.pinned.checked.prog)=true:=by kernel_rfl
set_option maxRecDepth 100000 in
theorem j2:(mapsRowed Tryz.pinned.checked.prog)=true:=by kernel_rfl
set_option maxRecDepth 100000 in
theorem j3:(Tryz.f7.params.all (Tryz.pinned.checked.prog.readableRec ·))=true:=by kernel_rfl
set_option maxRecDepth 100000 in
theorem j4:(namedTie Tryz.pinned.checked.prog Rows.shortestWalksRow.named Rows.shortestWalksSpec.vars)=true:=by kernel_rfl
set_option maxRecDepth 100000 in
theorem j5:((Rows.shortestWalksRow.stops==[]))=true:=by kernel_rfl
set_option maxRecDepth 100000 in
theorem j6:((Tryz.pinned.checked.prog.stops==[]))=true:=by kernel_rfl
set_option maxRecDepth 100000 in
theorem j7:((Rows.shortestWalksRow.knobs==[]))=true:=by kernel_rfl
set_option maxRecDepth 100000 in
theorem j8:((Tryz.pinned.checked.prog.stopKnobs==[]))=true:=by kernel_rfl
set_option maxRecDepth 100000 in
theorem j9:((Rows.shortestWalksRow.inPlace==Tryz.pinned.checked.prog.inPlace 7))=true:=by kernel_rfl
set_option maxRecDepth 100000 in
theorem j10:((Rows.shortestWalksRow.unfollowed==Tryz.pinned.checked.prog.unfollowed 7))=true:=by kernel_rfl
set_option maxRecDepth 100000 in
theorem j11:((Rows.shortestWalksRow.recurses==Tryz.pinned.checked.prog.recurses 7))=true:=by kernel_rfl
set_option maxRecDepth 100000 in
theorem j12:((Rows.shortestWalksRow.named==Tryz.pinned.checked.prog.varsNamed 7))=true:=by kernel_rfl
set_option maxRecDepth 100000 in
theorem j13:((Rows.shortestWalksRow.maps==(Tryz.f7.params.toList++Rows.shortestWalksSpec.plain.varTypes Tryz.pinned.checked.prog).any (Tryz.pinned.checked.prog.mapsRec ·)))=true:=by kernel_rfl
set_option maxRecDepth 100000 in
theorem j14:((Rows.shortestWalksRow.ifaces==(Tryz.f7.params.toList++Rows.shortestWalksSpec.plain.varTypes Tryz.pinned.checked.prog).any (Tryz.pinned.checked.prog.ifacesRec ·)))=true:=by kernel_rfl
set_option maxRecDepth 100000 in
theorem j15:((Rows.shortestWalksRow.mapsOut==Tryz.pinned.checked.prog.mapsAmong Tryz.f7.resultTypes.toList))=true:=by kernel_rfl
set_option maxRecDepth 100000 in
theorem j16:((Rows.shortestWalksRow.loops==(Tryz.f7.params.toList++Rows.shortestWalksSpec.plain.varTypes Tryz.pinned.checked.prog).any (Tryz.pinned.checked.prog.loopsFrom ·)))=true:=by kernel_rfl
set_option maxRecDepth 100000 in
theorem j17:((Rows.shortestWalksRow.wideKeys==(Tryz.f7.params.toList++Rows.shortestWalksSpec.plain.varTypes Tryz.pinned.checked.prog++Tryz.f7.resultTypes.toList).any (Tryz.pinned.checked.prog.wideKeysFrom ·)))=true:=by kernel_rfl
set_option maxRecDepth 100000 in
theorem j18:(Rows.shortestWalksSpec.vars.all (Tryz.pinned.checked.prog.varReadable ·))=true:=by kernel_rfl
set_option maxRecDepth 100000 in
theorem j19:(Tryz.f7.resultTypes.all (fun t=>Tryz.pinned.checked.prog.readableRec t&&decide (t<Tryz.pinned.checked.prog.types.size)))=true:=by kernel_rfl
set_option maxRecDepth 100000 in
theorem j20:((Rows.shortestWalksRow.ifacesOut==Tryz.f7.resultTypes.toList.any (Tryz.pinned.checked.prog.ifacesRec ·)))=true:=by kernel_rfl
set_option maxRecDepth 100000 in
theorem j21:((Rows.shortestWalksRow.loopsOut==Tryz.f7.resultTypes.toList.any (Tryz.pinned.checked.prog.loopsFrom ·)))=true:=by kernel_rfl
set_option maxRecDepth 100000 in
theorem j22:((Rows.shortestWalksRow.plainKeys==Tryz.pinned.checked.prog.plainKeys))=true:=by kernel_rfl
set_option maxRecDepth 100000 in
theorem j23:(Rows.shortestWalksRow.shortTexts.isNone)=true:=by kernel_rfl
set_option maxRecDepth 100000 in
theorem j24:(Tryz.pinned.checked.prog.stopsHeard)=true:=by kernel_rfl
set_option maxRecDepth 100000 in
theorem j25:(Tryz.pinned.checked.prog.mayEnter)=true:=by kernel_rfl
set_option maxRecDepth 100000 in
theorem j26:((Rows.shortestWalksRow.lifted==Tryz.pinned.checked.prog.liftsFinal))=true:=by kernel_rfl
set_option maxRecDepth 100000 in
theorem j27:((Tryz.pinned.checked.prog.make==some Rows.shortestWalksRow.make))=true:=by kernel_rfl
set_option maxRecDepth 100000 in
theorem j28:((Rows.shortestWalksRow.kinds==(if Rows.shortestWalksRow.domain.isEmpty then[]else Tryz.f7.params.toList.map fun t=>match Tryz.pinned.checked.prog.underlying t with|some (.int k)=>some k|_=>none)))=true:=by kernel_rfl
set_option maxRecDepth 100000 in
theorem j29:((Rows.shortestWalksRow.pinned==Rows.shortestWalksRow.pinnedBy))=true:=by kernel_rfl
set_option maxRecDepth 100000 in
theorem j30:((Rows.shortestWalksRow.veiled==(Tryz.f7.params.toList++Rows.shortestWalksSpec.plain.varTypes Tryz.pinned.checked.prog++Tryz.f7.resultTypes.toList).any (Tryz.pinned.checked.prog.veiledRec ·)))=true:=by kernel_rfl
set_option maxRecDepth 100000 in
theorem j31:(Rows.shortestWalksRow.veiledFits Tryz.pinned.checked.prog Tryz.f7.params.toList (Tryz.f7.params.toList++Rows.shortestWalksSpec.plain.varTypes Tryz.pinned.checked.prog++Tryz.f7.resultTypes.toList))=true:=by kernel_rfl
set_option maxRecDepth 100000 in
theorem LG:joinedFacts Tryz.pinned.checked.prog 7 Tryz.f7 Rows.shortestWalksSpec Rows.shortestWalksRow=true:=by
 unfold joinedFacts
 exact(AA (AA (AA (AA (AA (AA (AA (AA (AA (AA (AA (AA (AA (AA (AA (AA (AA (AA (AA (AA (AA (AA (AA (AA (AA (AA (AA (AA (AA (AA (AA j0 j1) j2) j3) j4) j5) j6) j7) j8) j9) j10) j11) j12) j13) j14) j15) j16) j17) j18) j19) j20) j21) j22) j23) j24) j25) j26) j27) j28) j29) j30) j31)
set_option maxRecDepth 100000 in
theorem over:Rows.shortestWalksRow.holds Tryz.pinned (OpenSpec.ofChange Rows.shortestWalksSpec):=
 OpenClaim.holds_of_wide 7 Tryz.f7 rfl rfl rfl rfl rfl rfl rfl ⟨rfl,rfl,rfl,rfl,rfl⟩ rfl rfl rfl rfl rfl (by kernel_rfl) Tryz.func7 LG
  (of_decide_eq_true (by kernel_rfl)) (by unfold Func.isWrapper;first|(rw [if_pos (by decide +kernel)];kernel_rfl)|(rw [if_neg (by decide +kernel)];exact⟨rfl,rfl⟩))
  (fun os started H enc _=>lifted os started H enc)
set_option maxRecDepth 100000 in
theorem proved:Rows.ShortestWalksCardSaid:=
 Claim7.holds_tied_plain_at .later [] [.data] true (true, "e9ffaa5598370d0d5ec677c84c14a40571e9f7b76e74804d0b5217372db687c5") false
  over (fun _ h=>by cases h) (by kernel_rfl) (fun _ h=>by cases h) shortestWalks_row_tie rfl ⟨rfl,rfl⟩ (by kernel_rfl) (by decide)
  (fun f fn h1 h2=>by
    obtain rfl:f=7:=Option.some.inj (h1.symm.trans (by kernel_rfl))
    obtain rfl:fn=Tryz.f7:=Option.some.inj (h2.symm.trans Tryz.func7)
    refine⟨by kernel_rfl,fun j t hj=>?_⟩
    match j,hj with
        |0,hj=>
         obtain rfl:t=25:=by rw[Tryz.params7]at hj;simpa using hj.symm
         exact(by kernel_rfl:Tryz.pinned.checked.prog.wantsStandIn 25=false)
        |1,hj=>
         obtain rfl:t=28:=by rw[Tryz.params7]at hj;simpa using hj.symm
         exact(by kernel_rfl:Tryz.pinned.checked.prog.wantsStandIn 28=false)
        |j+2,hj=>rw[Tryz.params7]at hj;simp at hj)
  (by kernel_rfl)
#print axioms proved
end FinShortestWalks
end Go.Proofs.YthjeehjphekjmaaGreatDoor
