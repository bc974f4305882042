/- The law 'IndexUpdates' answers true for every input: the statement, from the law about the evaluator. Condition: the listed package variable holds what the card says (tied to the program's text by the given tie). -/
import Derived.Test.YtceiccjppfapjaaGreatDoorRows
import Derived.Test.YtceiccjppfapjaaGreatDoorCards
import Derived.Test.YtceiccjppfapjaaGreatDoorTie
import Derived.SevenTiedAt
import Derived.LaidLaws
import Derived.Handed
import Derived.Test.YtceiccjppfapjaaGreatDoorXMat
namespace Go.Proofs.YtceiccjppfapjaaGreatDoor
namespace FinIndexUpdates
open Go.ChangeShapes Go.WideShapes Go.ChangeAt Go.RowKit AI
theorem own:ownKnob Tryz.prog.godebug=none:=by kernel_rfl
theorem laidOut:laidOutB Tryz.prog=true:=by kernel_rfl
noncomputable def laidWorld (os:Os):World:=
 let w0:=World.holding Tryz.prog os ⟨#[],#[],[]⟩
 {w0 with heap:=w0.heap.modify 0 fun
  | .cells _ t frozen=>.cells #[.int .i64 0,.int .i64 1] t frozen
  |o=>o}
set_option maxRecDepth 100000 in
theorem laid_met (os:Os) (args:Array Value):laidMet Tryz.prog Rows.indexUpdatesRow.laid ((laidWorld os).forCall (fun _ _=>0) ⟨#[],args,[]⟩).memory:=
 laidMet_of_run (ps:=[.cell 0 0,.cell 0 1]) 8 (by kernel_rfl) (by kernel_rfl) (by kernel_rfl)
set_option maxRecDepth 100000 in
theorem lifted (os:Os) (started:os.Started) (H:Type) (enc:TypeId×Value→H):
 ReturnsInHanded {} Tryz.checked os 8 .any (fun w args=>(Rows.indexUpdatesSpec.pre enc Tryz.prog Tryz.f8 Rows.indexUpdatesRow.domain false w args∧laidMet Tryz.prog Rows.indexUpdatesRow.laid w)∧sizedMet enc Tryz.prog Tryz.f8 (OpenSpec.ofChange Rows.indexUpdatesSpec) false w args)
  (Rows.indexUpdatesSpec.post enc Tryz.prog Tryz.f8 false true false false):=by
 refine returnsInHanded_of_change_and (C:=Tryz.checked) (X:=fun w _=>laidMet Tryz.prog Rows.indexUpdatesRow.laid w) (fun _ _ _ hh h=>h.of_heap hh) own started (by kernel_rfl) Tryz.func8
  (ChangeSpec.witness_at (enc:=enc) (C:=Tryz.checked) (os:=os) (X:=fun w _=>laidMet Tryz.prog Rows.indexUpdatesRow.laid w) false (laidWorld os) #[.slice none 0 0,.agg #[.slice none 0 0,.slice none 0 0,.int .i64 0,.int .i64 0],.agg #[.int .i64 0,.int .i64 0,.int .i64 0,.int .i64 0,.string ⟨#[]⟩,.int .i64 0,.int .i64 0,.int .i64 0,.string ⟨#[]⟩,.slice none 0 0]] 8 rfl (by kernel_rfl) (by kernel_rfl) (by kernel_rfl) (by kernel_rfl) (by kernel_rfl) (laid_met os _)) ?_
 intro W base args ds gs before hval hW _ _ _ _
 exact Zz (P:=Tryz.prog) (fun n=>Agb n) ⟨_,Tryz.func8,rfl,by decide⟩ [69,107,51,25,22,63,23,95,61,104,49,47,60,9,3] (by kernel_rfl) Rows.indexUpdatesSpec rfl (fun ds hds=>by
  match ds,hds with
  |[_,_,_],_=>rfl) (tb:=4) (by kernel_rfl) (by kernel_rfl) laidOut (of_decide_eq_true (by kernel_rfl)) (of_decide_eq_true (by kernel_rfl)) hval hW (fun xs h=>VR xs (by rw[Tryz.params8]at h;exact h))
theorem and_t {a b : Bool} (h1 : a = true) (h2 : b = true) : (a && b) = true := by rw [h1, h2]; rfl
set_option maxRecDepth 100000 in
theorem j0 : (Rows.indexUpdatesRow.wf (OpenSpec.ofChange Rows.indexUpdatesSpec)) = true := by kernel_rfl
set_option maxRecDepth 100000 in
theorem j1 : (laidOutB Tryz.pinned.checked.prog) = true := by kernel_rfl
set_option maxRecDepth 100000 in
theorem j2 : (mapsRowed Tryz.pinned.checked.prog) = true := by kernel_rfl
set_option maxRecDepth 100000 in
theorem j3 : (Tryz.f8.params.all (Tryz.pinned.checked.prog.readableRec ·)) = true := by kernel_rfl
set_option maxRecDepth 100000 in
theorem j4 : (namedTie Tryz.pinned.checked.prog Rows.indexUpdatesRow.named Rows.indexUpdatesSpec.vars) = true := by kernel_rfl
set_option maxRecDepth 100000 in
theorem j5 : ((Rows.indexUpdatesRow.stops == [])) = true := by kernel_rfl
set_option maxRecDepth 100000 in
theorem j6 : ((Tryz.pinned.checked.prog.stops == [])) = true := by kernel_rfl
set_option maxRecDepth 100000 in
theorem j7 : ((Rows.indexUpdatesRow.knobs == [])) = true := by kernel_rfl
set_option maxRecDepth 100000 in
theorem j8 : ((Tryz.pinned.checked.prog.stopKnobs == [])) = true := by kernel_rfl
set_option maxRecDepth 100000 in
theorem j9 : ((Rows.indexUpdatesRow.inPlace == Tryz.pinned.checked.prog.inPlace 8)) = true := by kernel_rfl
set_option maxRecDepth 100000 in
theorem j10 : ((Rows.indexUpdatesRow.unfollowed == Tryz.pinned.checked.prog.unfollowed 8)) = true := by kernel_rfl
set_option maxRecDepth 100000 in
theorem j11 : ((Rows.indexUpdatesRow.recurses == Tryz.pinned.checked.prog.recurses 8)) = true := by kernel_rfl
set_option maxRecDepth 100000 in
theorem j12 : ((Rows.indexUpdatesRow.named == Tryz.pinned.checked.prog.varsNamed 8)) = true := by kernel_rfl
set_option maxRecDepth 100000 in
theorem j13 : ((Rows.indexUpdatesRow.maps == (Tryz.f8.params.toList ++ Rows.indexUpdatesSpec.plain.varTypes Tryz.pinned.checked.prog).any (Tryz.pinned.checked.prog.mapsRec ·))) = true := by kernel_rfl
set_option maxRecDepth 100000 in
theorem j14 : ((Rows.indexUpdatesRow.ifaces == (Tryz.f8.params.toList ++ Rows.indexUpdatesSpec.plain.varTypes Tryz.pinned.checked.prog).any (Tryz.pinned.checked.prog.ifacesRec ·))) = true := by kernel_rfl
set_option maxRecDepth 100000 in
theorem j15 : ((Rows.indexUpdatesRow.mapsOut == Tryz.pinned.checked.prog.mapsAmong Tryz.f8.resultTypes.toList)) = true := by kernel_rfl
set_option maxRecDepth 100000 in
theorem j16 : ((Rows.indexUpdatesRow.loops == (Tryz.f8.params.toList ++ Rows.indexUpdatesSpec.plain.varTypes Tryz.pinned.checked.prog).any (Tryz.pinned.checked.prog.loopsFrom ·))) = true := by kernel_rfl
set_option maxRecDepth 100000 in
theorem j17 : ((Rows.indexUpdatesRow.wideKeys == (Tryz.f8.params.toList ++ Rows.indexUpdatesSpec.plain.varTypes Tryz.pinned.checked.prog ++ Tryz.f8.resultTypes.toList).any (Tryz.pinned.checked.prog.wideKeysFrom ·))) = true := by kernel_rfl
set_option maxRecDepth 100000 in
theorem j18 : (Rows.indexUpdatesSpec.vars.all (Tryz.pinned.checked.prog.varReadable ·)) = true := by kernel_rfl
set_option maxRecDepth 100000 in
theorem j19 : (Tryz.f8.resultTypes.all (fun t => Tryz.pinned.checked.prog.readableRec t && decide (t < Tryz.pinned.checked.prog.types.size))) = true := by kernel_rfl
set_option maxRecDepth 100000 in
theorem j20 : ((Rows.indexUpdatesRow.ifacesOut == Tryz.f8.resultTypes.toList.any (Tryz.pinned.checked.prog.ifacesRec ·))) = true := by kernel_rfl
set_option maxRecDepth 100000 in
theorem j21 : ((Rows.indexUpdatesRow.loopsOut == Tryz.f8.resultTypes.toList.any (Tryz.pinned.checked.prog.loopsFrom ·))) = true := by kernel_rfl
set_option maxRecDepth 100000 in
theorem j22 : ((Rows.indexUpdatesRow.plainKeys == Tryz.pinned.checked.prog.plainKeys)) = true := by kernel_rfl
set_option maxRecDepth 100000 in
theorem j23 : (Rows.indexUpdatesRow.shortTexts.isNone) = true := by kernel_rfl
set_option maxRecDepth 100000 in
theorem j24 : (Tryz.pinned.checked.prog.stopsHeard) = true := by kernel_rfl
set_option maxRecDepth 100000 in
theorem j25 : (Tryz.pinned.checked.prog.mayEnter) = true := by kernel_rfl
set_option maxRecDepth 100000 in
theorem j26 : ((Rows.indexUpdatesRow.lifted == Tryz.pinned.checked.prog.liftsFinal)) = true := by kernel_rfl
set_option maxRecDepth 100000 in
theorem j27 : ((Tryz.pinned.checked.prog.make == some Rows.indexUpdatesRow.make)) = true := by kernel_rfl
set_option maxRecDepth 100000 in
theorem j28 : ((Rows.indexUpdatesRow.kinds == (if Rows.indexUpdatesRow.domain.isEmpty then [] else Tryz.f8.params.toList.map fun t => match Tryz.pinned.checked.prog.underlying t with | some (.int k) => some k | _ => none))) = true := by kernel_rfl
set_option maxRecDepth 100000 in
theorem j29 : ((Rows.indexUpdatesRow.pinned == Rows.indexUpdatesRow.pinnedBy)) = true := by kernel_rfl
set_option maxRecDepth 100000 in
theorem j30 : ((Rows.indexUpdatesRow.veiled == (Tryz.f8.params.toList ++ Rows.indexUpdatesSpec.plain.varTypes Tryz.pinned.checked.prog ++ Tryz.f8.resultTypes.toList).any (Tryz.pinned.checked.prog.veiledRec ·))) = true := by kernel_rfl
set_option maxRecDepth 100000 in
theorem j31 : (Rows.indexUpdatesRow.veiledFits Tryz.pinned.checked.prog Tryz.f8.params.toList (Tryz.f8.params.toList ++ Rows.indexUpdatesSpec.plain.varTypes Tryz.pinned.checked.prog ++ Tryz.f8.resultTypes.toList)) = true := by kernel_rfl
set_option maxRecDepth 100000 in
theorem closedJ : joinedFacts Tryz.pinned.checked.prog 8 Tryz.f8 Rows.indexUpdatesSpec Rows.indexUpdatesRow = true := by
  unfold joinedFacts
  exact (and_t (and_t (and_t (and_t (and_t (and_t (and_t (and_t (and_t (and_t (and_t (and_t (and_t (and_t (and_t (and_t (and_t (and_t (and_t (and_t (and_t (and_t (and_t (and_t (and_t (and_t (and_t (and_t (and_t (and_t (and_t j0 j1) j2) j3) j4) j5) j6) j7) j8) j9) j10) j11) j12) j13) j14) j15) j16) j17) j18) j19) j20) j21) j22) j23) j24) j25) j26) j27) j28) j29) j30) j31)

set_option maxRecDepth 100000 in
theorem over:Rows.indexUpdatesRow.holds Tryz.pinned (OpenSpec.ofChange Rows.indexUpdatesSpec):=
 OpenClaim.holds_of_wide 8 Tryz.f8 rfl rfl rfl rfl rfl rfl rfl ⟨rfl,rfl,rfl,rfl,rfl⟩ rfl rfl rfl rfl rfl (by kernel_rfl) Tryz.func8 closedJ
  (of_decide_eq_true (by kernel_rfl)) (by unfold Func.isWrapper;first|(rw [if_pos (by decide +kernel)];kernel_rfl)|(rw [if_neg (by decide +kernel)];exact⟨rfl,rfl⟩))
  (fun os started H enc _=>lifted os started H enc)
set_option maxRecDepth 100000 in
theorem proved:Rows.IndexUpdatesCardSaid:=
 Claim7.holds_tied_plain_at .later [] [.data] true (true, "2c646e6369fe31c3e6a24e1c37c8bbe1111e9044fddc7f740906176930b12cf2") true
  over (fun _ h=>by cases h) (by kernel_rfl) (fun _ h=>by cases h) indexUpdates_row_tie rfl ⟨rfl,rfl⟩ (by kernel_rfl) (by decide)
  (fun f fn h1 h2=>by
    obtain rfl:f=8:=Option.some.inj (h1.symm.trans (by kernel_rfl))
    obtain rfl:fn=Tryz.f8:=Option.some.inj (h2.symm.trans Tryz.func8)
    refine⟨by kernel_rfl,fun j t hj=>?_⟩
    match j,hj with
        |0,hj=>
         obtain rfl:t=69:=by rw[Tryz.params8]at hj;simpa using hj.symm
         exact(by kernel_rfl:Tryz.pinned.checked.prog.wantsStandIn 69=false)
        |1,hj=>
         obtain rfl:t=25:=by rw[Tryz.params8]at hj;simpa using hj.symm
         exact(by kernel_rfl:Tryz.pinned.checked.prog.wantsStandIn 25=false)
        |2,hj=>
         obtain rfl:t=51:=by rw[Tryz.params8]at hj;simpa using hj.symm
         exact(by kernel_rfl:Tryz.pinned.checked.prog.wantsStandIn 51=false)
        |j+3,hj=>rw[Tryz.params8]at hj;simp at hj)
  (by kernel_rfl)
#print axioms proved
end FinIndexUpdates
end Go.Proofs.YtceiccjppfapjaaGreatDoor
