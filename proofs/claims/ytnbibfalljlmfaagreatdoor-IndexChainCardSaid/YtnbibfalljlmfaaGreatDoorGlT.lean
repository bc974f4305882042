/- The reference's wide numbers: they are reckoned without a panic. -/
import Derived.Test.YtnbibfalljlmfaaGreatDoorGlA
set_option linter.unusedVariables false
set_option maxRecDepth 4000
namespace Go.Proofs.YtnbibfalljlmfaaGreatDoor
namespace AI
def Dig (l:List Int):Prop:=l.length=14∧∀x∈l,0≤x∧x≤999
theorem Dig.set {l:List Int} (h:Dig l) {k:Nat} {y:Int} (hy:0≤y∧y≤999):Dig (l.set k y):=by
  refine⟨by rw[List.length_set];exact h.1,fun x hx=>?_⟩
  rcases List.mem_or_eq_of_mem_set hx with hx|rfl
  · exact h.2 x hx
  · exact hy
theorem Anq {d e:Int} (h1:0≤d) (h2:d≤999) (h3:0≤e) (h4:e≤999):0≤d*e∧d*e≤998001:=
  ⟨Int.mul_nonneg h1 h3,by
    have:=Int.mul_le_mul h2 h4 h3 (by omega:(0:Int)≤999)
    omega⟩
theorem tmE {c:Int} (h:0≤c):c.tmod 1000=c % 1000:=Int.tmod_eq_emod_of_nonneg h
theorem tdE {c:Int} (h:0≤c):c.tdiv 1000=c / 1000:=Int.tdiv_eq_ediv_of_nonneg h
def Left (j:Nat) (c:Int):Prop:=0≤c∧((j=0∧c<1000000000000000000)∨(j=1∧c<1000000000000000)∨(j=2∧c<1000000000000)∨(j=3∧c<1000000000)∨(j=4∧c<1000000)∨(j=5∧c<1000)∨(6≤j∧c=0))
def Carry (j:Nat) (y:Int):Prop:=0≤y∧((j≤6∧y≤999)∨(j=7∧y≤1)∨(j=8∧y=0))
theorem Ajt {j:Nat} {c:Int} (h:Left j c):Left (j+1) (c.tdiv 1000):=by
  have e:=tdE h.1
  unfold Left at *;omega
theorem Aqg {j:Nat} {c y x d:Int} (h:Left j c) (hy:Carry j y) (hj:0<c∨0<y) (hx:0≤x∧x≤999∧(j=7→x=0)) (hd:0≤d∧d≤999):Carry (j+1) ((y+x+d*c.tmod 1000).tdiv 1000):=by
  have e1:=tmE h.1
  have hm:=h.1
  obtain⟨m1,m2⟩:=Anq hd.1 hd.2 (e:=c.tmod 1000) (by omega) (by omega)
  have hy0:=hy.1
  have e2:=tdE (c:=y+x+d*c.tmod 1000) (by omega)
  have hc:c.tmod 1000=0∨j≤5:=by unfold Left at h;omega
  rw[e2]
  rcases hc with h0|h0
  · have hm0:d*c.tmod 1000=0:=by rw[h0];exact Int.mul_zero _
    rw[hm0]
    unfold Carry Left at *;omega
  · unfold Carry Left at *;omega
theorem ALt {i:Nat} {dd:Int} {A:Int} {l:List Int} {Q:Je→Env→Sto→Prop} (hi:i≤5) (hl:Dig l) (hz:∀q (h:q<l.length),i+7≤q→l[q]=0) (hd:0≤dd∧dd≤999) {B C:Int} (hB:0≤C∧C≤1000000000000000)
    (hQ:∀(l':List Int) (c k y:Int),Dig l'→(∀ q (h:q<l'.length),i+8≤q→l'[q]=0)→Q (.exit 2) [(0,.int .i64 A),(1,.int .i64 B),(5,.own 0 0 0 14),(6,.int .i64 i),(7,.int .i64 dd),(8,.int .i64 c),(9,.int .i64 y),(10,.int .i64 k),(27,.bool false)] ⟨[.arr 0 1 true true (ints l')],1⟩):
    Run (Dx tab) (.loop l234_0_h l234_0_b) [(0,.int .i64 A),(1,.int .i64 B),(5,.own 0 0 0 14),(6,.int .i64 i),(7,.int .i64 dd),(8,.int .i64 C),(9,.int .i64 0),(10,.int .i64 i)] ⟨[.arr 0 1 true true (ints l)],1⟩ Q:=by
  refine DK (fun m env s=>∃(j k:Nat) (c y:Int) (l:List Int),m=8-j∧k=i+j∧Left j c∧Carry j y∧Dig l∧(∀ q (h:q<l.length),i+7≤q→k≤q→l[q]=0)∧
    env=[(0,.int .i64 A),(1,.int .i64 B),(5,.own 0 0 0 14),(6,.int .i64 i),(7,.int .i64 dd),(8,.int .i64 c),(9,.int .i64 y),(10,.int .i64 k)]∧s=⟨[.arr 0 1 true true (ints l)],1⟩) ?_ _ _ _ ⟨0,i,C,0,l,rfl,rfl,by unfold Left;omega,by unfold Carry;omega,hl,fun q h h1 h2=>hz q h h1,rfl,rfl⟩
  clear hl hz hB
  rintro _ _ _ ⟨j,k,c,y,l,rfl,hk,hc0,hy,hl,hz,rfl,rfl⟩
  refine⟨rfl,?_⟩
  have hll:=hl.1
  have hj7:0<c∨0<y→j≤7:=by unfold Left Carry at *;omega
  have hk8:k≤i+8:=by unfold Carry at hy;omega
  have c0:=hc0.1
  have y0:=hy.1
  have c1:c<1000000000000000000:=by unfold Left at hc0;omega
  have y1:y≤999:=by unfold Carry at hy;omega
  have e2:=tdE c0
  obtain⟨m0,m1,m2⟩:∃m,dd*c.tmod 1000=m∧0≤m∧m≤998001:=⟨_,rfl,by have:=tmE c0;exact Anq hd.1 hd.2 (by omega) (by omega)⟩
  obtain⟨x,hx⟩:∃x:Int,∀h:k<l.length,l[k]=x∧0≤x∧x≤999∧(j=7→x=0):=by
    by_cases h:k<l.length
    · exact⟨l[k],fun _=>⟨rfl,(hl.2 _ (List.getElem_mem h)).1,(hl.2 _ (List.getElem_mem h)).2,fun h7=>hz k h (by omega) (by omega)⟩⟩
    · exact⟨0,fun h'=>absurd h' h⟩
  have hkl:0<c∨0<y→k<l.length:=by intro h;have:=hj7 h;omega
  have hq:∀h:k<l.length,(y+x+dd*c.tmod 1000).tdiv 1000=(y+x+dd*c.tmod 1000) / 1000∧0≤y+x+dd*c.tmod 1000∧y+x+dd*c.tmod 1000≤2000000:=by
    intro h
    have h1:=hx h
    have h2:0≤y+x+dd*c.tmod 1000:=by omega
    exact⟨tdE h2,h2,by omega⟩
  clear hj7
  by_cases hstop:0<c∨0<y
  · have hk1:=hkl hstop
    obtain⟨q1,q2,q3⟩:=hq hk1
    obtain⟨x0,x1,x2,x3⟩:=hx hk1
    have fin:∀k',k'=(k:Int)+1→again (fun m env s=>∃(j k:Nat) (c y:Int) (l:List Int),m=8-j∧k=i+j∧Left j c∧Carry j y∧Dig l∧(∀ q (h:q<l.length),i+7≤q→k≤q→l[q]=0)∧
        env=[(0,.int .i64 A),(1,.int .i64 B),(5,.own 0 0 0 14),(6,.int .i64 i),(7,.int .i64 dd),(8,.int .i64 c),(9,.int .i64 y),(10,.int .i64 k)]∧s=⟨[.arr 0 1 true true (ints l)],1⟩) (8-j)
        [(0,.int .i64 A),(1,.int .i64 B),(5,.own 0 0 0 14),(6,.int .i64 i),(7,.int .i64 dd),(8,.int .i64 (c.tdiv 1000)),(9,.int .i64 ((y+x+dd*c.tmod 1000).tdiv 1000)),(10,.int .i64 k')] ⟨[.arr 0 1 true true (ints (l.set k ((y+x+dd*c.tmod 1000).tmod 1000)))],1⟩:=by
      intro k' hk'
      have e3:=tmE q2
      refine again.mk ⟨_,?_,j+1,k+1,_,_,_,rfl,by omega,Ajt hc0,Aqg hc0 hy hstop ⟨x1,x2,x3⟩ hd,hl.set (by rw[e3];omega),fun q h h1 h2=>?_,by rw[hk'];rfl,rfl⟩
      · have:j≤7:=by unfold Left Carry at *;omega
        omega
      · rw[List.length_set]at h
        rw[List.getElem_set_ne (by omega)]
        exact hz q h h1 (by omega)
    clear hx hq hkl hz hl hc0 hy m2
    (conv=>whnf);repeat' (first|((with_reducible first|apply kN|apply kW|apply kX|apply kG|apply kQ);(· exact sd);conv=>whnf)|(refine DW.mk ?_ ?_<;>intro hc<;>(try rw[List.length_nil]at hc)<;>first|(exfalso;omega)|(exact absurd rfl hc)|conv=>whnf)|(rw [x0];conv=>whnf)|(refine CB ?_ ?_<;>intro hc<;>conv=>whnf))
    all_goals exact fin _ rfl
  · clear hx hq hkl
    (conv=>whnf);repeat' (first|((with_reducible first|apply kN|apply kW|apply kX|apply kG|apply kQ);(· exact sd);conv=>whnf)|(refine DW.mk ?_ ?_<;>intro hc<;>(try rw[List.length_nil]at hc)<;>first|(exfalso;omega)|(exact absurd rfl hc)|conv=>whnf)  |(refine CB ?_ ?_<;>intro hc<;>conv=>whnf))
    exact hQ l _ _ _ hl (fun q h h1=>hz q h (by omega) (by omega))
end AI
end Go.Proofs.YtnbibfalljlmfaaGreatDoor
