/- Steps of the symbolic walk whose side conditions are tried by themselves. -/
import Derived.Test.YtgmgkkbpgndaaaaGreatDoorVb
set_option linter.unusedVariables false
set_option maxRecDepth 4000
namespace Go.Proofs.YtgmgkkbpgndaaaaGreatDoor
namespace AI
structure Sn (p:Prop):Prop where
 h:p
structure Sw (p:Prop):Prop where
 h:p
structure Sx (p:Prop):Prop where
 h:p
structure Sg (p:Prop):Prop where
 h:p
structure Sq (p:Prop):Prop where
 h:p
theorem kN {p t:Prop} (h:Sn p) (k:t):need p t:=⟨h.1,k⟩
theorem kW {z:Int} {K:AV→Prop} (h:Sw (-2^63≤z∧z<2^63)) (k:K (.int .i64 z)):wrapK .i64 z K:=wrapK_intro (wrap_i64 h.1.1 h.1.2) k
theorem kX {α:Type} {xs:List α} {i:Nat} {x:α} {K:α→Prop} (h:Sx (nth xs i=some x)) (k:K x):nthK xs i K:=⟨x,h.1,k⟩
theorem kG {α:Type} {o:Option α} {K:α→Prop} {x:α} (h:Sg (o=some x)) (k:K x):getK o K:=⟨x,h.1,k⟩
theorem kQ {α:Type} {a b:α} {K:α→Prop} (h:Sq (a=b)) (k:K b):eqK a K:=⟨b,h.1,k⟩
theorem sd {P:Prop} (h:P:=by first|((with_reducible apply Sn.mk);first|with_reducible rfl|omega|rfl|decide|trivial|exact⟨rfl,rfl,by omega,by omega⟩|exact⟨by omega,by omega,roomy_of (by omega)⟩|(refine ⟨rfl,rfl,?_⟩;first|((first|rw[lI]|rw[lS]|rw[lB]|rw[lV]);omega)|(simp;done)|(simp;omega))|(refine ⟨rfl,?_⟩;first|((first|rw[lI]|rw[lS]|rw[lB]|rw[lV]);omega)|(simp;done)|(simp;omega))|exact⟨by (try rw[lV]);omega,by(try rw[lV]);omega⟩)|((with_reducible apply Sw.mk);exact⟨by omega,by omega⟩)|((with_reducible apply Sx.mk);first|((with_reducible first|refine nIN ?_|refine nI ?_|refine nSN ?_|refine nS ?_|refine nBN ?_|refine nB ?_|refine nYN ?_|refine nY ?_|refine nY0 ?_|refine nVN ?_|refine nV ?_);first|omega|(simp;omega))|rfl)|((with_reducible apply Sg.mk);rfl)|((with_reducible apply Sq.mk);first|(with_reducible first|exact lI _|exact lS _|exact lB _|exact uI|exact uS|exact uIS|exact uSS|exact rIN _ _|exact rI _ _|exact tIN|exact tI|exact tBN|exact tB|exact uB|exact rBN _ _|exact lV _|exact uV|exact uVS)|rfl)):P:=h
inductive Kl (p:Prop):Prop→Prop
 |no (h:p→False):Kl p False
 |yes:Kl p p
structure Br (p q A B:Prop):Prop where
 mk::(l:p→A) (r:q→B)
inductive Stp:Prop→Prop→Prop
 |n {p t:Prop} (h:Sn p):Stp (need p t) t
 |w {z:Int} {K:AV→Prop} (h:Sw (-2^63≤z∧z<2^63)):Stp (wrapK .i64 z K) (K (.int .i64 z))
 |x {α:Type} {xs:List α} {i:Nat} {x:α} {K:α→Prop} (h:Sx (nth xs i=some x)):Stp (nthK xs i K) (K x)
 |g {α:Type} {o:Option α} {x:α} {K:α→Prop} (h:Sg (o=some x)):Stp (getK o K) (K x)
 |q {α:Type} {a b:α} {K:α→Prop} (h:Sq (a=b)):Stp (eqK a K) (K b)
 |p {p p' q' A B:Prop} (h:Kl p p') (k:Kl (¬p) q'):Stp (pcase p A B) (Br p' q' A B)
theorem Kl.to {p q:Prop} (h:Kl p q):p→q:=fun hp=>by
 cases h with
 |no h=>exact h hp
 |yes=>exact hp
theorem Stp.go {G H:Prop} (h:Stp G H) (k:H):G:=by
 cases h with
 |n h=>exact kN h k
 |w h=>exact kW h k
 |x h=>exact kX h k
 |g h=>exact kG h k
 |q h=>exact kQ h k
 |p h h2=>exact⟨fun hp=>k.l (h.to hp),fun hp=>k.r (h2.to hp)⟩
theorem kl {p q:Prop} (h:Kl p q:=by first|exact Kl.no (by intro hc;(try rw[List.length_nil]at hc);first|omega|exact absurd rfl hc)|exact Kl.yes):Kl p q:=h
theorem kA {G H:Prop} (k:H) (h:Stp G H:=by first|((with_reducible first|apply Stp.n|apply Stp.w|apply Stp.x|apply Stp.g|apply Stp.q);exact sd)|((with_reducible apply Stp.p)<;>exact kl)):G:=h.go k
theorem kB {b:Bool} {A B:Prop} (k:Br (b=true) (b=false) A B):bcase b A B:=bcase_intro k.l k.r
end AI
end Go.Proofs.YtgmgkkbpgndaaaaGreatDoor
