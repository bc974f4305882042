/- The index of a graph; its update, where the index given is that of the graph. -/
import Derived.Test.YtnbibfalljlmfaaGreatDoorMbf
import Derived.Test.YtnbibfalljlmfaaGreatDoorApZ
import Derived.Test.YtnbibfalljlmfaaGreatDoorMbl
set_option linter.unusedVariables false
set_option maxRecDepth 4000
namespace Go.Proofs.YtnbibfalljlmfaaGreatDoor
namespace AI
structure Bld (g:GG) (b:Bool) (W:List GX):Prop where
  pb:D8 (Dx tab) 30 [g.av] (· =.sl b (vs GX.av W))
  pm:(W.map GX.e).Perm (ents (chk g).nodes)
  srt:W.Pairwise (fun x y=>ltT y x=false)
  len:W.length≤300000
theorem AVJ {g:GG} (hg:g.ok) (hN:g.nodes.length≤2000):∃b W,Bld g b W:=by
  have hN':(chk g).nodes.length≤2000:=by unfold chk;split;exact hN;simp
  obtain⟨_,⟨b,W,rfl,h1,h2⟩,p⟩:=(AuG hg hN').det
  have hl:=Sl (AcG (g:=g)) (chk g).nodes.length
  rw[List.take_length]at hl
  have h3:=h1.length_eq
  rw[List.length_map]at h3
  exact⟨b,W,p,h1,h2,by omega⟩
theorem AAE (x:GX):AKY x x=0:=by have:=ABT.anti x x;omega
theorem AHi {x:GX}:D8 (Dx tab) 60 [x.av,x.av] (· =.bool true):=by
  have h:=AUd (x:=x) (y:=x)
  rw[AAE]at h
  refine Lu rfl rfl ?_
  (conv=>whnf);repeat' (first|(refine BM h ?_;rintro _ rfl;conv=>whnf)|((with_reducible first|apply kN|apply kW|apply kX|apply kG|apply kQ);(· exact sd);conv=>whnf)|(refine DW.mk ?_ ?_<;>intro hc<;>(try rw[List.length_nil]at hc)<;>first|(exfalso;omega)|(exact absurd rfl hc)|conv=>whnf)|(refine CB ?_ ?_<;>intro hc<;>conv=>whnf))
  all_goals first | rfl | (exfalso; omega) | (trace_state; fail "updEq")
theorem ALj {W:List GX} {b1 b2:Bool} (hl:W.length≤300000):D8 (Dx tab) 59 [.sl b1 (vs GX.av W),.sl b2 (vs GX.av W),.fn 60 []] (· =.bool true):=by
  refine Lu rfl rfl ?_
  (conv=>whnf);repeat' (first  |((with_reducible first|apply kN|apply kW|apply kX|apply kG|apply kQ);(· exact sd);conv=>whnf)|(refine DW.mk ?_ ?_<;>intro hc<;>(try rw[List.length_nil]at hc)<;>first|(exfalso;omega)|(exact absurd rfl hc)|conv=>whnf)|(refine CB ?_ ?_<;>intro hc<;>conv=>whnf))
  all_goals first|(exfalso;omega)|skip
  refine DK (fun z env s=>∃(i c:Nat),z=W.length-i∧env=[(1,.sl b2 (vs GX.av W)),(2,.fn 60 []),(15,.sl b1 (vs GX.av W)),(16,.int .i64 W.length),(17,.int .i64 i)]∧s=⟨[],c⟩) ?_ _ _ _ ⟨0,_,rfl,by first|rfl|(rw [← lV (f:=GX.av) W];rfl),rfl⟩
  rintro _ _ _ ⟨i,c,rfl,rfl,rfl⟩
  refine⟨rfl,?_⟩
  by_cases hlt:i<W.length
  · have h:=AHi (x:=W[i])
    (conv=>whnf);repeat' (first|(refine BM h ?_;rintro _ rfl;conv=>whnf)|((with_reducible first|apply kN|apply kW|apply kX|apply kG|apply kQ);(· exact sd);conv=>whnf)|(refine DW.mk ?_ ?_<;>intro hc<;>(try rw[List.length_nil]at hc)<;>first|(exfalso;omega)|(exact absurd rfl hc)|conv=>whnf)|(refine CB ?_ ?_<;>intro hc<;>conv=>whnf))
    all_goals first | exact again.mk ⟨_, by omega, i + 1, _, rfl, rfl, rfl⟩ | (exfalso; omega) | (trace_state; fail "eqFX")
  · (conv=>whnf);repeat' (first  |((with_reducible first|apply kN|apply kW|apply kX|apply kG|apply kQ);(· exact sd);conv=>whnf)|(refine DW.mk ?_ ?_<;>intro hc<;>(try rw[List.length_nil]at hc)<;>first|(exfalso;omega)|(exact absurd rfl hc)|conv=>whnf)|(refine CB ?_ ?_<;>intro hc<;>conv=>whnf))
    all_goals first | rfl | (exfalso; omega) | (trace_state; fail "eqFX2")
theorem AQ6 {g:GG} {c:GC} {b:Bool} {W:List GX} (hg:g.ok) (hc:c.ok) (hB:Bld g b W) (h0:(Anp g c).2≠0):D8 (Dx tab) 27 [.sl b (vs GX.av W),g.av,c.av] (· =.tup [.sl false [],.int .i64 (Anp g c).2]):=by
  have pa:=ALk hg hc
  have pe:=ALj (W:=W) (b1:=b) (b2:=b) hB.len
  have pb:=hB.pb
  generalize (Anp g c).2=e at pa h0 ⊢
  generalize (Anp g c).1=k at pa
  refine Lu rfl rfl ?_
  (conv=>whnf);repeat' (first|(refine BM pb ?_;rintro _ rfl;conv=>whnf)|(refine BM pe ?_;rintro _ rfl;conv=>whnf)|(refine BM pa ?_;rintro _ rfl;conv=>whnf)|((with_reducible first|apply kN|apply kW|apply kX|apply kG|apply kQ);(· exact sd);conv=>whnf)|(refine DW.mk ?_ ?_<;>intro hc<;>(try rw[List.length_nil]at hc)<;>first|(exfalso;omega)|(exact absurd rfl hc)|conv=>whnf)|(refine CB ?_ ?_<;>intro hc<;>conv=>whnf))
  all_goals first | rfl | (exfalso; omega) | (trace_state; fail "updNo")
theorem ALl {g k:GG} {c:GC} {b b2:Bool} {W W2:List GX} (hg:g.ok) (hc:c.ok) (hB:Bld g b W) (h0:Anp g c=(k,0)) (hk:Bld k b2 W2):D8 (Dx tab) 27 [.sl b (vs GX.av W),g.av,c.av] (· =.tup [.sl b2 (vs GX.av W2),.int .i64 0]):=by
  have pa:=ALk hg hc
  have pe:=ALj (W:=W) (b1:=b) (b2:=b) hB.len
  have pb:=hB.pb
  have pk:=hk.pb
  rw[h0]at pa
  refine Lu rfl rfl ?_
  (conv=>whnf);repeat' (first|(refine BM pb ?_;rintro _ rfl;conv=>whnf)|(refine BM pe ?_;rintro _ rfl;conv=>whnf)|(refine BM pa ?_;rintro _ rfl;conv=>whnf)|(refine BM pk ?_;rintro _ rfl;conv=>whnf)|((with_reducible first|apply kN|apply kW|apply kX|apply kG|apply kQ);(· exact sd);conv=>whnf)|(refine DW.mk ?_ ?_<;>intro hc<;>(try rw[List.length_nil]at hc)<;>first|(exfalso;omega)|(exact absurd rfl hc)|conv=>whnf)|(refine CB ?_ ?_<;>intro hc<;>conv=>whnf))
  all_goals first | rfl | (exfalso; omega) | (trace_state; fail "updYes")
theorem AQ7 {g k:GG} {c:GC} (hg:g.ok) (hc:c.ok) (h0:Anp g c=(k,0)):k.ok∧k.nodes.length≤g.nodes.length+1:=by
  unfold Anp at h0
  split at h0
  · rename_i h
    exact absurd (Prod.mk.inj h0).2 h
  · rename_i h
    split at h0
    · rename_i h2
      exact absurd (Prod.mk.inj h0).2 h2
    · have:=(Prod.mk.inj h0).1
      subst this
      exact⟨ABy hg (ALm (Classical.not_not.1 h)) hc,(AQ8 g c).1⟩
end AI
end Go.Proofs.YtnbibfalljlmfaaGreatDoor
