/- The reference's validity of values, with lists in lists. -/
import Derived.Test.YtnbibfalljlmfaaGreatDoorGlA
set_option linter.unusedVariables false
set_option maxRecDepth 4000
namespace Go.Proofs.YtnbibfalljlmfaaGreatDoor
namespace AI
theorem AQX {l:List AV} {nn:Bool} (hl:l.length<2^63):D8 (Dx tab) 267 [.sl nn l,.int .i64 0] (fun v=>∃b,v=.bool b):=by
  refine Lu rfl rfl ?_
  (conv=>whnf);repeat' (first|((with_reducible first|apply kN|apply kW|apply kX|apply kG|apply kQ);(· exact sd);conv=>whnf)|(refine DW.mk ?_ ?_<;>intro hc<;>(try rw[List.length_nil]at hc)<;>first|(exfalso;omega)|(exact absurd rfl hc)|conv=>whnf)  |(refine CB ?_ ?_<;>intro hc<;>conv=>whnf))
  all_goals exact⟨_,rfl⟩
theorem AQY {n:Nat} (ih:∀{g:GV},g.ok→D8 (Dx tab) 228 [g.av,.int .i64 n] (fun v=>∃b,v=.bool b)) (hn:n<2^60) {l:List AV} {nn:Bool} (hl:l.length<2^63) (h:∀x∈l,Like Tryz.prog 48 x):
    D8 (Dx tab) 267 [.sl nn l,.int .i64 (n+1:Nat)] (fun v=>∃b,v=.bool b):=by
  refine Lu rfl rfl ?_
  (conv=>whnf);repeat' (first|((with_reducible first|apply kN|apply kW|apply kX|apply kG|apply kQ);(· exact sd);conv=>whnf)|(refine DW.mk ?_ ?_<;>intro hc<;>(try rw[List.length_nil]at hc)<;>first|(exfalso;omega)|(exact absurd rfl hc)|conv=>whnf)  |(refine CB ?_ ?_<;>intro hc<;>conv=>whnf))
  all_goals first|exact⟨_,rfl⟩|skip
  refine DK (fun m env s'=>∃i:Nat,m=l.length-i∧env=[(0,.sl nn l),(1,.int .i64 (n+1:Nat)),(5,.int .i64 i)]∧s'=⟨[],0⟩) ?_ _ _ _ ⟨0,rfl,rfl,rfl⟩
  rintro _ _ _ ⟨i,rfl,rfl,rfl⟩
  refine⟨rfl,?_⟩
  obtain⟨gx,hgx⟩:=Amk h i
  have ih':∀{g:GV},g.ok→D8 (Dx tab) 228 [g.av,.int .i64 (((n+1:Nat):Int)-1)] (fun v=>∃b,v=.bool b):=by
    rw[show ((n+1:Nat):Int)-1=(n:Int) by omega];exact ih
  (conv=>whnf);repeat' (first|((with_reducible first|apply kN|apply kW|apply kX|apply kG|apply kQ);(· exact sd);conv=>whnf)|(refine DW.mk ?_ ?_<;>intro hc<;>(try rw[List.length_nil]at hc)<;>first|(exfalso;omega)|(exact absurd rfl hc)|conv=>whnf)|(apply LX;(· exact(hgx (by omega)).1);conv=>whnf)|(refine BM (ih' (g:=gx) (hgx (by omega)).2.2) ?_;rintro _ ⟨b,rfl⟩;conv=>whnf)|(refine CB ?_ ?_<;>intro hc<;>conv=>whnf))
  all_goals first|exact⟨_,rfl⟩|exact again.mk ⟨_,by omega,i+1,rfl,rfl,rfl⟩
theorem AAz {n:Int} {g:GV} (hg:g.ok) (hlist:D8 (Dx tab) 267 [.sl g.nn g.l,.int .i64 n] (fun v=>∃b,v=.bool b)):
    D8 (Dx tab) 228 [g.av,.int .i64 n] (fun v=>∃b,v=.bool b):=by
  obtain⟨g1,g2,g3,g4,g5,g6,g7⟩:=hg
  unfold Ln at g4 g5
  refine Lu rfl rfl ?_
  (conv=>whnf);repeat' (first|((with_reducible first|apply kN|apply kW|apply kX|apply kG|apply kQ);(· exact sd);conv=>whnf)|(refine DW.mk ?_ ?_<;>intro hc<;>(try rw[List.length_nil]at hc)<;>first|(exfalso;omega)|(exact absurd rfl hc)|conv=>whnf)|(refine BM (bare (g:=g)) ?_;rintro _ ⟨b,rfl⟩;conv=>whnf)|(refine BM (AVx (n:=g.n)) ?_;rintro _ ⟨b,rfl⟩;conv=>whnf)|(refine BM (AAg (n:=g.n) (d:=g.d)) ?_;rintro _ ⟨b,rfl,_⟩;conv=>whnf)|(refine BM (AQQ g4) ?_;rintro _ ⟨b,rfl⟩;conv=>whnf)|(refine BM (AK7 g5 g7) ?_;rintro _ ⟨b,rfl⟩;conv=>whnf)|(refine BM hlist ?_;rintro _ ⟨b,rfl⟩;conv=>whnf)|(refine CB ?_ ?_<;>intro hc<;>conv=>whnf))
  all_goals exact⟨_,rfl⟩
theorem valid {n:Nat} (hn:n<2^60):∀{g:GV},g.ok→D8 (Dx tab) 228 [g.av,.int .i64 n] (fun v=>∃b,v=.bool b):=by
  induction n with
  |zero=>intro g hg;exact AAz hg (AQX hg.2.2.2.2.1)
  |succ n ih=>intro g hg;exact AAz hg (AQY (ih (by omega)) (by omega) hg.2.2.2.2.1 hg.2.2.2.2.2.2)
theorem Valid {g:GV} (hg:g.ok):D8 (Dx tab) 164 [g.av] (fun v=>∃b,v=.bool b):=by
  refine Lu rfl rfl ?_
  (conv=>whnf);repeat' (first|((with_reducible first|apply kN|apply kW|apply kX|apply kG|apply kQ);(· exact sd);conv=>whnf)|(refine DW.mk ?_ ?_<;>intro hc<;>(try rw[List.length_nil]at hc)<;>first|(exfalso;omega)|(exact absurd rfl hc)|conv=>whnf)|(refine BM (valid (n:=8) (by omega) hg) ?_;rintro _ ⟨b,rfl⟩;conv=>whnf)|(refine CB ?_ ?_<;>intro hc<;>conv=>whnf))
  all_goals exact⟨_,rfl⟩
end AI
end Go.Proofs.YtnbibfalljlmfaaGreatDoor
