/- Graphs alike: the program's way and the reference's. -/
import Derived.Test.YtnbibfalljlmfaaGreatDoorMal
import Derived.Test.YtnbibfalljlmfaaGreatDoorMam
set_option linter.unusedVariables false
set_option maxRecDepth 4000
namespace Go.Proofs.YtnbibfalljlmfaaGreatDoor
namespace AI
def AeL {α:Type} (R:α→α→Prop) (l m:List α):Prop:=l.length=m.length∧∀k (h:k<l.length) (h':k<m.length),R l[k] m[k]
noncomputable instance {α:Type} (R:α→α→Prop) (l m:List α):Decidable (AeL R l m):=Classical.propDecidable _
section
variable {α:Type} {R:α→α→Prop} {l m:List α} {i:Nat}
theorem Aaw (h:∀k (h:k<l.length) (h':k<m.length),k<i→R l[k] m[k]) (h1:i<l.length) (h2:i<m.length) (hi:R l[i] m[i]):∀k (h:k<l.length) (h':k<m.length),k<i+1→R l[k] m[k]:=fun k a b c=>by
  by_cases e:k=i
  · subst e;exact hi
  · exact h k a b (by omega)
theorem Afy (hl:l.length=m.length) (h:∀k (h:k<l.length) (h':k<m.length),k<i→R l[k] m[k]) (hi:l.length≤i):AeL R l m:=⟨hl,fun k a b=>h k a b (by omega)⟩
theorem Vy (h1:i<l.length) (h2:i<m.length) (h:¬R l[i] m[i]):¬AeL R l m:=fun x=>h (x.2 i h1 h2)
theorem AmB (h:¬l.length=m.length):¬AeL R l m:=fun x=>h x.1
theorem Apj {l m:List α}:AeL Eq l m↔l=m:=⟨fun h=>List.ext_getElem h.1 h.2,fun h=>by subst h;exact⟨rfl,fun _ _ _=>rfl⟩⟩
end
def SP (x y:GP):Prop:=x.key=y.key∧QK 12 x.v y.v=0
def SN (x y:GN):Prop:=x.id=y.id∧x.labels=y.labels∧AeL SP x.props y.props
def SE (x y:GE):Prop:=x.id=y.id∧x.fr=y.fr∧x.to=y.to∧x.ty=y.ty∧AeL SP x.props y.props
def SG (a b:GG):Prop:=AeL SN a.nodes b.nodes∧AeL SE a.edges b.edges
noncomputable instance (x y:GP):Decidable (SP x y):=Classical.propDecidable _
noncomputable instance (x y:GN):Decidable (SN x y):=Classical.propDecidable _
noncomputable instance (x y:GE):Decidable (SE x y):=Classical.propDecidable _
noncomputable instance (x y:GG):Decidable (SG x y):=Classical.propDecidable _
def Ac1 (v:GV):Prop:=v.ok∧AcF 12 v.av
def AoS (l:List GP):Prop:=l.length≤4000∧∀p∈l,Ac1 p.v
def AAH (n:GN):Prop:=n.labels.length≤4000∧AoS n.props
def AjE (g:GG):Prop:=g.nodes.length≤4000∧g.edges.length≤4000∧(∀ n∈g.nodes,AAH n)∧∀e∈g.edges,AoS e.props
theorem AeP {g:GG} (hg:g.ok) (hs:SmG g 24 30):AjE g:=by
  have h1:=hs.1
  have h2:=hs.2.1
  refine⟨by omega,by omega,fun n hn=>⟨by have:=(hs.2.2.1 n hn).1;omega,by have:=(hs.2.2.1 n hn).2.2.1;omega,fun p hp=>⟨((hg.2.2.1 n hn).2.2.2.2.2.2 p hp).2,((hs.2.2.1 n hn).2.2.2 p hp).2⟩⟩,fun e he=>⟨by have:=(hs.2.2.2 e he).2.1;omega,fun p hp=>⟨((hg.2.2.2.2.2.1 e he).2.2.2.2.2.2 p hp).2,((hs.2.2.2 e he).2.2 p hp).2⟩⟩⟩
theorem AVO {a b:GV} (ha:Ac1 a) (hb:Ac1 b):D8 (Dx tab) 114 [a.av,b.av] (· =.int .i64 (QK 12 a b)):=Ape 12 ha.1 hb.1 (AaI ha.2) (AaI hb.2)
theorem ARb {a b:GV} (ha:Ac1 a) (hb:Ac1 b):D8 (Dx tab) 96 [a.av,b.av] (· =.int .i64 (QK 12 a b)):=Apa 12 ha.1 hb.1 (AaI ha.2) (AaI hb.2)
theorem ARc {l m:List (List UInt8)} {nl nm:Bool} (hl:l.length≤4000) (hm:m.length≤4000):D8 (Dx tab) 125 [.sl nl (vs .str l),.sl nm (vs .str m)] (· =.bool (decide (l=m))):=by
  by_cases hlen:l.length=m.length
  case neg=>
    refine Lu rfl rfl ?_
    (conv=>whnf);repeat' (first  |((with_reducible first|apply kN|apply kW|apply kX|apply kG|apply kQ);(· exact sd);conv=>whnf)|(refine DW.mk ?_ ?_<;>intro hc<;>(try rw[List.length_nil]at hc)<;>first|(exfalso;omega)|(exact absurd rfl hc)|conv=>whnf)|(refine CB ?_ ?_<;>intro hc<;>conv=>whnf))
    all_goals first | exact Hf (fun h => hlen (congrArg List.length h)) | (exfalso; omega) | (trace_state; fail "strs0")
  refine Lu rfl rfl ?_
  (conv=>whnf);repeat' (first  |((with_reducible first|apply kN|apply kW|apply kX|apply kG|apply kQ);(· exact sd);conv=>whnf)|(refine DW.mk ?_ ?_<;>intro hc<;>(try rw[List.length_nil]at hc)<;>first|(exfalso;omega)|(exact absurd rfl hc)|conv=>whnf)|(refine CB ?_ ?_<;>intro hc<;>conv=>whnf))
  all_goals first|(exfalso;omega)|skip
  refine DK (fun z env s=>∃(i:Nat),z=l.length-i∧(∀ k (h:k<l.length) (h':k<m.length),k<i→l[k]=m[k])∧env=[(0,.sl nl (vs .str l)),(1,.sl nm (vs .str m)),(12,.int .i64 l.length),(13,.int .i64 i)]∧s=⟨[],0⟩) ?_ _ _ _ ⟨0,rfl,fun _ _ _ h=>absurd h (by omega),by first|rfl|(rw [← lV (f:=AV.str) l];rfl),rfl⟩
  rintro _ _ _ ⟨i,rfl,hx,rfl,rfl⟩
  refine⟨rfl,?_⟩
  by_cases hlt:i<l.length
  · by_cases he:l[i]=m[i]
    · (conv=>whnf);repeat' (first  |((with_reducible first|apply kN|apply kW|apply kX|apply kG|apply kQ);(· exact sd);conv=>whnf)|(refine DW.mk ?_ ?_<;>intro hc<;>(try rw[List.length_nil]at hc)<;>first|(exfalso;omega)|(exact absurd rfl hc)|conv=>whnf)|(refine CB ?_ ?_<;>intro hc<;>conv=>whnf))
      all_goals first | exact again.mk ⟨_, by omega, i + 1, rfl, Aaw (R := Eq) hx hlt (by omega) he, rfl, rfl⟩ | (exfalso; omega) | exact absurd he (by assumption) | (exfalso; simp_all; done) | (trace_state; fail "strs1")
    · (conv=>whnf);repeat' (first  |((with_reducible first|apply kN|apply kW|apply kX|apply kG|apply kQ);(· exact sd);conv=>whnf)|(refine DW.mk ?_ ?_<;>intro hc<;>(try rw[List.length_nil]at hc)<;>first|(exfalso;omega)|(exact absurd rfl hc)|conv=>whnf)|(refine CB ?_ ?_<;>intro hc<;>conv=>whnf))
      all_goals first | exact Hf (fun h => Vy (R := Eq) hlt (by omega) he (Apj.2 h)) | (exfalso; omega) | exact absurd (by assumption) he | (exfalso; simp_all; done) | (trace_state; fail "strs2")
  · (conv=>whnf);repeat' (first  |((with_reducible first|apply kN|apply kW|apply kX|apply kG|apply kQ);(· exact sd);conv=>whnf)|(refine DW.mk ?_ ?_<;>intro hc<;>(try rw[List.length_nil]at hc)<;>first|(exfalso;omega)|(exact absurd rfl hc)|conv=>whnf)|(refine CB ?_ ?_<;>intro hc<;>conv=>whnf))
    all_goals first | exact Lp (Apj.1 (Afy (R := Eq) hlen hx (by omega))) | (exfalso; omega) | (trace_state; fail "strs3")
theorem ARg {l m:List (List UInt8)} {nl nm:Bool} (hl:l.length≤4000) (hm:m.length≤4000):D8 (Dx tab) 153 [.sl nl (vs .str l),.sl nm (vs .str m)] (· =.bool (decide (l=m))):=by
  by_cases hlen:l.length=m.length
  case neg=>
    refine Lu rfl rfl ?_
    (conv=>whnf);repeat' (first  |((with_reducible first|apply kN|apply kW|apply kX|apply kG|apply kQ);(· exact sd);conv=>whnf)|(refine DW.mk ?_ ?_<;>intro hc<;>(try rw[List.length_nil]at hc)<;>first|(exfalso;omega)|(exact absurd rfl hc)|conv=>whnf)|(refine CB ?_ ?_<;>intro hc<;>conv=>whnf))
    all_goals first | exact Hf (fun h => hlen (congrArg List.length h)) | (exfalso; omega) | (trace_state; fail "strs0")
  refine Lu rfl rfl ?_
  (conv=>whnf);repeat' (first  |((with_reducible first|apply kN|apply kW|apply kX|apply kG|apply kQ);(· exact sd);conv=>whnf)|(refine DW.mk ?_ ?_<;>intro hc<;>(try rw[List.length_nil]at hc)<;>first|(exfalso;omega)|(exact absurd rfl hc)|conv=>whnf)|(refine CB ?_ ?_<;>intro hc<;>conv=>whnf))
  all_goals first|(exfalso;omega)|skip
  refine DK (fun z env s=>∃(i:Nat),z=l.length-i∧(∀ k (h:k<l.length) (h':k<m.length),k<i→l[k]=m[k])∧env=[(0,.sl nl (vs .str l)),(1,.sl nm (vs .str m)),(5,.int .i64 i)]∧s=⟨[],0⟩) ?_ _ _ _ ⟨0,rfl,fun _ _ _ h=>absurd h (by omega),by first|rfl|(rw [← lV (f:=AV.str) l];rfl),rfl⟩
  rintro _ _ _ ⟨i,rfl,hx,rfl,rfl⟩
  refine⟨rfl,?_⟩
  by_cases hlt:i<l.length
  · by_cases he:l[i]=m[i]
    · (conv=>whnf);repeat' (first  |((with_reducible first|apply kN|apply kW|apply kX|apply kG|apply kQ);(· exact sd);conv=>whnf)|(refine DW.mk ?_ ?_<;>intro hc<;>(try rw[List.length_nil]at hc)<;>first|(exfalso;omega)|(exact absurd rfl hc)|conv=>whnf)|(refine CB ?_ ?_<;>intro hc<;>conv=>whnf))
      all_goals first | exact again.mk ⟨_, by omega, i + 1, rfl, Aaw (R := Eq) hx hlt (by omega) he, rfl, rfl⟩ | (exfalso; omega) | exact absurd he (by assumption) | (exfalso; simp_all; done) | (trace_state; fail "strs1")
    · (conv=>whnf);repeat' (first  |((with_reducible first|apply kN|apply kW|apply kX|apply kG|apply kQ);(· exact sd);conv=>whnf)|(refine DW.mk ?_ ?_<;>intro hc<;>(try rw[List.length_nil]at hc)<;>first|(exfalso;omega)|(exact absurd rfl hc)|conv=>whnf)|(refine CB ?_ ?_<;>intro hc<;>conv=>whnf))
      all_goals first | exact Hf (fun h => Vy (R := Eq) hlt (by omega) he (Apj.2 h)) | (exfalso; omega) | exact absurd (by assumption) he | (exfalso; simp_all; done) | (trace_state; fail "strs2")
  · (conv=>whnf);repeat' (first  |((with_reducible first|apply kN|apply kW|apply kX|apply kG|apply kQ);(· exact sd);conv=>whnf)|(refine DW.mk ?_ ?_<;>intro hc<;>(try rw[List.length_nil]at hc)<;>first|(exfalso;omega)|(exact absurd rfl hc)|conv=>whnf)|(refine CB ?_ ?_<;>intro hc<;>conv=>whnf))
    all_goals first | exact Lp (Apj.1 (Afy (R := Eq) hlen hx (by omega))) | (exfalso; omega) | (trace_state; fail "strs3")
theorem AAI {l m:List GP} {nl nm:Bool} (hl:AoS l) (hm:AoS m):D8 (Dx tab) 154 [.sl nl (vs GP.av l),.sl nm (vs GP.av m)] (· =.bool (decide (AeL SP l m))):=by
  have hl1:=hl.1
  have hm1:=hm.1
  by_cases hlen:l.length=m.length
  case neg=>
    refine Lu rfl rfl ?_
    (conv=>whnf);repeat' (first  |((with_reducible first|apply kN|apply kW|apply kX|apply kG|apply kQ);(· exact sd);conv=>whnf)|(refine DW.mk ?_ ?_<;>intro hc<;>(try rw[List.length_nil]at hc)<;>first|(exfalso;omega)|(exact absurd rfl hc)|conv=>whnf)|(refine CB ?_ ?_<;>intro hc<;>conv=>whnf))
    all_goals first | exact Hf (AmB hlen) | (exfalso; omega) | (trace_state; fail "propsR0")
  refine Lu rfl rfl ?_
  (conv=>whnf);repeat' (first  |((with_reducible first|apply kN|apply kW|apply kX|apply kG|apply kQ);(· exact sd);conv=>whnf)|(refine DW.mk ?_ ?_<;>intro hc<;>(try rw[List.length_nil]at hc)<;>first|(exfalso;omega)|(exact absurd rfl hc)|conv=>whnf)|(refine CB ?_ ?_<;>intro hc<;>conv=>whnf))
  all_goals first|(exfalso;omega)|skip
  refine DK (fun z env s=>∃(i:Nat),z=l.length-i∧(∀ k (h:k<l.length) (h':k<m.length),k<i→SP l[k] m[k])∧env=[(0,.sl nl (vs GP.av l)),(1,.sl nm (vs GP.av m)),(5,.int .i64 i)]∧s=⟨[],0⟩) ?_ _ _ _ ⟨0,rfl,fun _ _ _ h=>absurd h (by omega),rfl,rfl⟩
  rintro _ _ _ ⟨i,rfl,hx,rfl,rfl⟩
  refine⟨rfl,?_⟩
  by_cases hlt:i<l.length
  · have ho:=ARb (hl.2 _ (List.getElem_mem hlt)) (hm.2 _ (List.getElem_mem (show i<m.length by omega)))
    by_cases hk:l[i].key=m[i].key
    · by_cases he:QK 12 l[i].v m[i].v=0
      · (conv=>whnf);repeat' (first|(refine BM ho ?_;rintro _ rfl;conv=>whnf)|((with_reducible first|apply kN|apply kW|apply kX|apply kG|apply kQ);(· exact sd);conv=>whnf)|(refine DW.mk ?_ ?_<;>intro hc<;>(try rw[List.length_nil]at hc)<;>first|(exfalso;omega)|(exact absurd rfl hc)|conv=>whnf)|(refine CB ?_ ?_<;>intro hc<;>conv=>whnf))
        all_goals first | exact again.mk ⟨_, by omega, i + 1, rfl, Aaw hx hlt (by omega) ⟨hk, he⟩, rfl, rfl⟩ | (exfalso; omega) | exact absurd hk (by assumption) | (exfalso; simp_all; done) | (trace_state; fail "propsR1")
      · (conv=>whnf);repeat' (first|(refine BM ho ?_;rintro _ rfl;conv=>whnf)|((with_reducible first|apply kN|apply kW|apply kX|apply kG|apply kQ);(· exact sd);conv=>whnf)|(refine DW.mk ?_ ?_<;>intro hc<;>(try rw[List.length_nil]at hc)<;>first|(exfalso;omega)|(exact absurd rfl hc)|conv=>whnf)|(refine CB ?_ ?_<;>intro hc<;>conv=>whnf))
        all_goals first | exact Hf (Vy hlt (by omega) fun h => he h.2) | (exfalso; omega) | exact absurd hk (by assumption) | (exfalso; simp_all; done) | (trace_state; fail "propsR2")
    · (conv=>whnf);repeat' (first|(refine BM ho ?_;rintro _ rfl;conv=>whnf)|((with_reducible first|apply kN|apply kW|apply kX|apply kG|apply kQ);(· exact sd);conv=>whnf)|(refine DW.mk ?_ ?_<;>intro hc<;>(try rw[List.length_nil]at hc)<;>first|(exfalso;omega)|(exact absurd rfl hc)|conv=>whnf)|(refine CB ?_ ?_<;>intro hc<;>conv=>whnf))
      all_goals first | exact Hf (Vy hlt (by omega) fun h => hk h.1) | (exfalso; omega) | exact absurd (by assumption) hk | (exfalso; simp_all; done) | (trace_state; fail "propsR3")
  · (conv=>whnf);repeat' (first  |((with_reducible first|apply kN|apply kW|apply kX|apply kG|apply kQ);(· exact sd);conv=>whnf)|(refine DW.mk ?_ ?_<;>intro hc<;>(try rw[List.length_nil]at hc)<;>first|(exfalso;omega)|(exact absurd rfl hc)|conv=>whnf)|(refine CB ?_ ?_<;>intro hc<;>conv=>whnf))
    all_goals first | exact Lp (Afy hlen hx (by omega)) | (exfalso; omega) | (trace_state; fail "propsR4")
theorem ARh {R:GP→GP→Prop} [∀ x y,Decidable (R x y)] {f:Nat} {l m:List GP} {nl nm:Bool} (hl:l.length≤4000) (hm:m.length≤4000) (hf:∀x∈l,∀y∈m,D8 (Dx tab) f [x.av,y.av] (· =.bool (decide (R x y)))):
    D8 (Dx tab) 206 [.sl nl (vs GP.av l),.sl nm (vs GP.av m),.fn f []] (· =.bool (decide (AeL R l m))):=by
  by_cases hlen:l.length=m.length
  case neg=>
    refine Lu rfl rfl ?_
    (conv=>whnf);repeat' (first  |((with_reducible first|apply kN|apply kW|apply kX|apply kG|apply kQ);(· exact sd);conv=>whnf)|(refine DW.mk ?_ ?_<;>intro hc<;>(try rw[List.length_nil]at hc)<;>first|(exfalso;omega)|(exact absurd rfl hc)|conv=>whnf)|(refine CB ?_ ?_<;>intro hc<;>conv=>whnf))
    all_goals first | exact Hf (AmB hlen) | (exfalso; omega) | (trace_state; fail "eqF0")
  refine Lu rfl rfl ?_
  (conv=>whnf);repeat' (first  |((with_reducible first|apply kN|apply kW|apply kX|apply kG|apply kQ);(· exact sd);conv=>whnf)|(refine DW.mk ?_ ?_<;>intro hc<;>(try rw[List.length_nil]at hc)<;>first|(exfalso;omega)|(exact absurd rfl hc)|conv=>whnf)|(refine CB ?_ ?_<;>intro hc<;>conv=>whnf))
  all_goals first|(exfalso;omega)|skip
  refine DK (fun z env s=>∃(i c:Nat),z=l.length-i∧(∀ k (h:k<l.length) (h':k<m.length),k<i→R l[k] m[k])∧env=[(1,.sl nm (vs GP.av m)),(2,.fn f []),(15,.sl nl (vs GP.av l)),(16,.int .i64 l.length),(17,.int .i64 i)]∧s=⟨[],c⟩) ?_ _ _ _ ⟨0,_,rfl,fun _ _ _ h=>absurd h (by omega),by first|rfl|(rw [← lV (f:=GP.av) l];rfl),rfl⟩
  rintro _ _ _ ⟨i,c,rfl,hx,rfl,rfl⟩
  refine⟨rfl,?_⟩
  by_cases hlt:i<l.length
  · have hcf:=hf _ (List.getElem_mem hlt) _ (List.getElem_mem (show i<m.length by omega))
    by_cases he:R l[i] m[i]
    · rw[decide_eq_true he]at hcf
      (conv=>whnf);repeat' (first|(refine BM hcf ?_;rintro _ rfl;conv=>whnf)|((with_reducible first|apply kN|apply kW|apply kX|apply kG|apply kQ);(· exact sd);conv=>whnf)|(refine DW.mk ?_ ?_<;>intro hc<;>(try rw[List.length_nil]at hc)<;>first|(exfalso;omega)|(exact absurd rfl hc)|conv=>whnf)|(refine CB ?_ ?_<;>intro hc<;>conv=>whnf))
      all_goals first | exact again.mk ⟨_, by omega, i + 1, _, rfl, Aaw hx hlt (by omega) he, rfl, rfl⟩ | (exfalso; omega) | (trace_state; fail "eqF1")
    · rw[decide_eq_false he]at hcf
      (conv=>whnf);repeat' (first|(refine BM hcf ?_;rintro _ rfl;conv=>whnf)|((with_reducible first|apply kN|apply kW|apply kX|apply kG|apply kQ);(· exact sd);conv=>whnf)|(refine DW.mk ?_ ?_<;>intro hc<;>(try rw[List.length_nil]at hc)<;>first|(exfalso;omega)|(exact absurd rfl hc)|conv=>whnf)|(refine CB ?_ ?_<;>intro hc<;>conv=>whnf))
      all_goals first | exact Hf (Vy hlt (by omega) he) | (exfalso; omega) | (trace_state; fail "eqF2")
  · (conv=>whnf);repeat' (first  |((with_reducible first|apply kN|apply kW|apply kX|apply kG|apply kQ);(· exact sd);conv=>whnf)|(refine DW.mk ?_ ?_<;>intro hc<;>(try rw[List.length_nil]at hc)<;>first|(exfalso;omega)|(exact absurd rfl hc)|conv=>whnf)|(refine CB ?_ ?_<;>intro hc<;>conv=>whnf))
    all_goals first | exact Lp (Afy hlen hx (by omega)) | (exfalso; omega) | (trace_state; fail "eqF3")
theorem ARm {R:GN→GN→Prop} [∀ x y,Decidable (R x y)] {f:Nat} {l m:List GN} {nl nm:Bool} (hl:l.length≤4000) (hm:m.length≤4000) (hf:∀x∈l,∀y∈m,D8 (Dx tab) f [x.av,y.av] (· =.bool (decide (R x y)))):
    D8 (Dx tab) 123 [.sl nl (vs GN.av l),.sl nm (vs GN.av m),.fn f []] (· =.bool (decide (AeL R l m))):=by
  by_cases hlen:l.length=m.length
  case neg=>
    refine Lu rfl rfl ?_
    (conv=>whnf);repeat' (first  |((with_reducible first|apply kN|apply kW|apply kX|apply kG|apply kQ);(· exact sd);conv=>whnf)|(refine DW.mk ?_ ?_<;>intro hc<;>(try rw[List.length_nil]at hc)<;>first|(exfalso;omega)|(exact absurd rfl hc)|conv=>whnf)|(refine CB ?_ ?_<;>intro hc<;>conv=>whnf))
    all_goals first | exact Hf (AmB hlen) | (exfalso; omega) | (trace_state; fail "eqF0")
  refine Lu rfl rfl ?_
  (conv=>whnf);repeat' (first  |((with_reducible first|apply kN|apply kW|apply kX|apply kG|apply kQ);(· exact sd);conv=>whnf)|(refine DW.mk ?_ ?_<;>intro hc<;>(try rw[List.length_nil]at hc)<;>first|(exfalso;omega)|(exact absurd rfl hc)|conv=>whnf)|(refine CB ?_ ?_<;>intro hc<;>conv=>whnf))
  all_goals first|(exfalso;omega)|skip
  refine DK (fun z env s=>∃(i c:Nat),z=l.length-i∧(∀ k (h:k<l.length) (h':k<m.length),k<i→R l[k] m[k])∧env=[(1,.sl nm (vs GN.av m)),(2,.fn f []),(15,.sl nl (vs GN.av l)),(16,.int .i64 l.length),(17,.int .i64 i)]∧s=⟨[],c⟩) ?_ _ _ _ ⟨0,_,rfl,fun _ _ _ h=>absurd h (by omega),by first|rfl|(rw [← lV (f:=GN.av) l];rfl),rfl⟩
  rintro _ _ _ ⟨i,c,rfl,hx,rfl,rfl⟩
  refine⟨rfl,?_⟩
  by_cases hlt:i<l.length
  · have hcf:=hf _ (List.getElem_mem hlt) _ (List.getElem_mem (show i<m.length by omega))
    by_cases he:R l[i] m[i]
    · rw[decide_eq_true he]at hcf
      (conv=>whnf);repeat' (first|(refine BM hcf ?_;rintro _ rfl;conv=>whnf)|((with_reducible first|apply kN|apply kW|apply kX|apply kG|apply kQ);(· exact sd);conv=>whnf)|(refine DW.mk ?_ ?_<;>intro hc<;>(try rw[List.length_nil]at hc)<;>first|(exfalso;omega)|(exact absurd rfl hc)|conv=>whnf)|(refine CB ?_ ?_<;>intro hc<;>conv=>whnf))
      all_goals first | exact again.mk ⟨_, by omega, i + 1, _, rfl, Aaw hx hlt (by omega) he, rfl, rfl⟩ | (exfalso; omega) | (trace_state; fail "eqF1")
    · rw[decide_eq_false he]at hcf
      (conv=>whnf);repeat' (first|(refine BM hcf ?_;rintro _ rfl;conv=>whnf)|((with_reducible first|apply kN|apply kW|apply kX|apply kG|apply kQ);(· exact sd);conv=>whnf)|(refine DW.mk ?_ ?_<;>intro hc<;>(try rw[List.length_nil]at hc)<;>first|(exfalso;omega)|(exact absurd rfl hc)|conv=>whnf)|(refine CB ?_ ?_<;>intro hc<;>conv=>whnf))
      all_goals first | exact Hf (Vy hlt (by omega) he) | (exfalso; omega) | (trace_state; fail "eqF2")
  · (conv=>whnf);repeat' (first  |((with_reducible first|apply kN|apply kW|apply kX|apply kG|apply kQ);(· exact sd);conv=>whnf)|(refine DW.mk ?_ ?_<;>intro hc<;>(try rw[List.length_nil]at hc)<;>first|(exfalso;omega)|(exact absurd rfl hc)|conv=>whnf)|(refine CB ?_ ?_<;>intro hc<;>conv=>whnf))
    all_goals first | exact Lp (Afy hlen hx (by omega)) | (exfalso; omega) | (trace_state; fail "eqF3")
theorem ARn {R:GE→GE→Prop} [∀ x y,Decidable (R x y)] {f:Nat} {l m:List GE} {nl nm:Bool} (hl:l.length≤4000) (hm:m.length≤4000) (hf:∀x∈l,∀y∈m,D8 (Dx tab) f [x.av,y.av] (· =.bool (decide (R x y)))):
    D8 (Dx tab) 127 [.sl nl (vs GE.av l),.sl nm (vs GE.av m),.fn f []] (· =.bool (decide (AeL R l m))):=by
  by_cases hlen:l.length=m.length
  case neg=>
    refine Lu rfl rfl ?_
    (conv=>whnf);repeat' (first  |((with_reducible first|apply kN|apply kW|apply kX|apply kG|apply kQ);(· exact sd);conv=>whnf)|(refine DW.mk ?_ ?_<;>intro hc<;>(try rw[List.length_nil]at hc)<;>first|(exfalso;omega)|(exact absurd rfl hc)|conv=>whnf)|(refine CB ?_ ?_<;>intro hc<;>conv=>whnf))
    all_goals first | exact Hf (AmB hlen) | (exfalso; omega) | (trace_state; fail "eqF0")
  refine Lu rfl rfl ?_
  (conv=>whnf);repeat' (first  |((with_reducible first|apply kN|apply kW|apply kX|apply kG|apply kQ);(· exact sd);conv=>whnf)|(refine DW.mk ?_ ?_<;>intro hc<;>(try rw[List.length_nil]at hc)<;>first|(exfalso;omega)|(exact absurd rfl hc)|conv=>whnf)|(refine CB ?_ ?_<;>intro hc<;>conv=>whnf))
  all_goals first|(exfalso;omega)|skip
  refine DK (fun z env s=>∃(i c:Nat),z=l.length-i∧(∀ k (h:k<l.length) (h':k<m.length),k<i→R l[k] m[k])∧env=[(1,.sl nm (vs GE.av m)),(2,.fn f []),(15,.sl nl (vs GE.av l)),(16,.int .i64 l.length),(17,.int .i64 i)]∧s=⟨[],c⟩) ?_ _ _ _ ⟨0,_,rfl,fun _ _ _ h=>absurd h (by omega),by first|rfl|(rw [← lV (f:=GE.av) l];rfl),rfl⟩
  rintro _ _ _ ⟨i,c,rfl,hx,rfl,rfl⟩
  refine⟨rfl,?_⟩
  by_cases hlt:i<l.length
  · have hcf:=hf _ (List.getElem_mem hlt) _ (List.getElem_mem (show i<m.length by omega))
    by_cases he:R l[i] m[i]
    · rw[decide_eq_true he]at hcf
      (conv=>whnf);repeat' (first|(refine BM hcf ?_;rintro _ rfl;conv=>whnf)|((with_reducible first|apply kN|apply kW|apply kX|apply kG|apply kQ);(· exact sd);conv=>whnf)|(refine DW.mk ?_ ?_<;>intro hc<;>(try rw[List.length_nil]at hc)<;>first|(exfalso;omega)|(exact absurd rfl hc)|conv=>whnf)|(refine CB ?_ ?_<;>intro hc<;>conv=>whnf))
      all_goals first | exact again.mk ⟨_, by omega, i + 1, _, rfl, Aaw hx hlt (by omega) he, rfl, rfl⟩ | (exfalso; omega) | (trace_state; fail "eqF1")
    · rw[decide_eq_false he]at hcf
      (conv=>whnf);repeat' (first|(refine BM hcf ?_;rintro _ rfl;conv=>whnf)|((with_reducible first|apply kN|apply kW|apply kX|apply kG|apply kQ);(· exact sd);conv=>whnf)|(refine DW.mk ?_ ?_<;>intro hc<;>(try rw[List.length_nil]at hc)<;>first|(exfalso;omega)|(exact absurd rfl hc)|conv=>whnf)|(refine CB ?_ ?_<;>intro hc<;>conv=>whnf))
      all_goals first | exact Hf (Vy hlt (by omega) he) | (exfalso; omega) | (trace_state; fail "eqF2")
  · (conv=>whnf);repeat' (first  |((with_reducible first|apply kN|apply kW|apply kX|apply kG|apply kQ);(· exact sd);conv=>whnf)|(refine DW.mk ?_ ?_<;>intro hc<;>(try rw[List.length_nil]at hc)<;>first|(exfalso;omega)|(exact absurd rfl hc)|conv=>whnf)|(refine CB ?_ ?_<;>intro hc<;>conv=>whnf))
    all_goals first | exact Lp (Afy hlen hx (by omega)) | (exfalso; omega) | (trace_state; fail "eqF3")
theorem sp1 {x y:GP} (hx:Ac1 x.v) (hy:Ac1 y.v):D8 (Dx tab) 207 [x.av,y.av] (· =.bool (decide (SP x y))):=by
  have ho:=AVO hx hy
  by_cases hk:x.key=y.key
  · by_cases he:QK 12 x.v y.v=0
    · refine Lu rfl rfl ?_
      (conv=>whnf);repeat' (first|(refine BM ho ?_;rintro _ rfl;conv=>whnf)|((with_reducible first|apply kN|apply kW|apply kX|apply kG|apply kQ);(· exact sd);conv=>whnf)|(refine DW.mk ?_ ?_<;>intro hc<;>(try rw[List.length_nil]at hc)<;>first|(exfalso;omega)|(exact absurd rfl hc)|conv=>whnf)|(refine CB ?_ ?_<;>intro hc<;>conv=>whnf))
      all_goals first | exact Lp ⟨hk, he⟩ | (exfalso; omega) | (exfalso; simp_all; done) | (trace_state; fail "sp1")
    · refine Lu rfl rfl ?_
      (conv=>whnf);repeat' (first|(refine BM ho ?_;rintro _ rfl;conv=>whnf)|((with_reducible first|apply kN|apply kW|apply kX|apply kG|apply kQ);(· exact sd);conv=>whnf)|(refine DW.mk ?_ ?_<;>intro hc<;>(try rw[List.length_nil]at hc)<;>first|(exfalso;omega)|(exact absurd rfl hc)|conv=>whnf)|(refine CB ?_ ?_<;>intro hc<;>conv=>whnf))
      all_goals first | exact Hf (fun h => he h.2) | (exfalso; omega) | (exfalso; simp_all; done) | (trace_state; fail "sp2")
  · refine Lu rfl rfl ?_
    (conv=>whnf);repeat' (first|(refine BM ho ?_;rintro _ rfl;conv=>whnf)|((with_reducible first|apply kN|apply kW|apply kX|apply kG|apply kQ);(· exact sd);conv=>whnf)|(refine DW.mk ?_ ?_<;>intro hc<;>(try rw[List.length_nil]at hc)<;>first|(exfalso;omega)|(exact absurd rfl hc)|conv=>whnf)|(refine CB ?_ ?_<;>intro hc<;>conv=>whnf))
    all_goals first | exact Hf (fun h => hk h.1) | (exfalso; omega) | (exfalso; simp_all; done) | (trace_state; fail "sp3")
theorem AAJ {l m:List GP} {nl nm:Bool} (hl:AoS l) (hm:AoS m):D8 (Dx tab) 126 [.sl nl (vs GP.av l),.sl nm (vs GP.av m)] (· =.bool (decide (AeL SP l m))):=by
  refine Lu rfl rfl ?_
  (conv=>whnf);repeat' (first|(refine BM (ARh hl.1 hm.1 fun x hx y hy=>sp1 (hl.2 x hx) (hm.2 y hy)) ?_;rintro _ rfl;conv=>whnf)|((with_reducible first|apply kN|apply kW|apply kX|apply kG|apply kQ);(· exact sd);conv=>whnf)|(refine DW.mk ?_ ?_<;>intro hc<;>(try rw[List.length_nil]at hc)<;>first|(exfalso;omega)|(exact absurd rfl hc)|conv=>whnf)|(refine CB ?_ ?_<;>intro hc<;>conv=>whnf))
  all_goals (rw [hc];rfl)
theorem sn1 {x y:GN} (hx:AAH x) (hy:AAH y):D8 (Dx tab) 124 [x.av,y.av] (· =.bool (decide (SN x y))):=by
  have h1:=ARc (nl:=x.ln) (nm:=y.ln) hx.1 hy.1
  have h2:=AAJ (nl:=x.pn) (nm:=y.pn) hx.2 hy.2
  by_cases e1:x.labels=y.labels
  · rw[decide_eq_true e1]at h1
    by_cases e2:AeL SP x.props y.props
    · rw[decide_eq_true e2]at h2
      refine Lu rfl rfl ?_
      (conv=>whnf);repeat' (first|(refine BM h1 ?_;rintro _ rfl;conv=>whnf)|(refine BM h2 ?_;rintro _ rfl;conv=>whnf)|((with_reducible first|apply kN|apply kW|apply kX|apply kG|apply kQ);(· exact sd);conv=>whnf)|(refine DW.mk ?_ ?_<;>intro hc<;>(try rw[List.length_nil]at hc)<;>first|(exfalso;omega)|(exact absurd rfl hc)|conv=>whnf)|(refine CB ?_ ?_<;>intro hc<;>conv=>whnf))
      all_goals first | exact Lp ⟨by assumption, e1, e2⟩ | exact Hf (fun h => absurd h.1 (by assumption)) | (trace_state; fail "sn1")
    · rw[decide_eq_false e2]at h2
      refine Lu rfl rfl ?_
      (conv=>whnf);repeat' (first|(refine BM h1 ?_;rintro _ rfl;conv=>whnf)|(refine BM h2 ?_;rintro _ rfl;conv=>whnf)|((with_reducible first|apply kN|apply kW|apply kX|apply kG|apply kQ);(· exact sd);conv=>whnf)|(refine DW.mk ?_ ?_<;>intro hc<;>(try rw[List.length_nil]at hc)<;>first|(exfalso;omega)|(exact absurd rfl hc)|conv=>whnf)|(refine CB ?_ ?_<;>intro hc<;>conv=>whnf))
      all_goals first | exact Hf (fun h => e2 h.2.2) | (trace_state; fail "sn2")
  · rw[decide_eq_false e1]at h1
    refine Lu rfl rfl ?_
    (conv=>whnf);repeat' (first|(refine BM h1 ?_;rintro _ rfl;conv=>whnf)|(refine BM h2 ?_;rintro _ rfl;conv=>whnf)|((with_reducible first|apply kN|apply kW|apply kX|apply kG|apply kQ);(· exact sd);conv=>whnf)|(refine DW.mk ?_ ?_<;>intro hc<;>(try rw[List.length_nil]at hc)<;>first|(exfalso;omega)|(exact absurd rfl hc)|conv=>whnf)|(refine CB ?_ ?_<;>intro hc<;>conv=>whnf))
    all_goals first | exact Hf (fun h => e1 h.2.1) | (trace_state; fail "sn3")
theorem se1 {x y:GE} (hx:AoS x.props) (hy:AoS y.props):D8 (Dx tab) 128 [x.av,y.av] (· =.bool (decide (SE x y))):=by
  have h2:=AAJ (nl:=x.pn) (nm:=y.pn) hx hy
  by_cases e2:AeL SP x.props y.props
  · rw[decide_eq_true e2]at h2
    refine Lu rfl rfl ?_
    (conv=>whnf);repeat' (first|(refine BM h2 ?_;rintro _ rfl;conv=>whnf)|((with_reducible first|apply kN|apply kW|apply kX|apply kG|apply kQ);(· exact sd);conv=>whnf)|(refine DW.mk ?_ ?_<;>intro hc<;>(try rw[List.length_nil]at hc)<;>first|(exfalso;omega)|(exact absurd rfl hc)|conv=>whnf)|(refine CB ?_ ?_<;>intro hc<;>conv=>whnf))
    all_goals first | exact Lp ⟨by assumption, by assumption, by assumption, by assumption, e2⟩ | exact Hf (fun h => absurd h.1 (by assumption)) | exact Hf (fun h => absurd h.2.1 (by assumption)) | exact Hf (fun h => absurd h.2.2.1 (by assumption)) | exact Hf (fun h => absurd h.2.2.2.1 (by assumption)) | (trace_state; fail "se1")
  · rw[decide_eq_false e2]at h2
    refine Lu rfl rfl ?_
    (conv=>whnf);repeat' (first|(refine BM h2 ?_;rintro _ rfl;conv=>whnf)|((with_reducible first|apply kN|apply kW|apply kX|apply kG|apply kQ);(· exact sd);conv=>whnf)|(refine DW.mk ?_ ?_<;>intro hc<;>(try rw[List.length_nil]at hc)<;>first|(exfalso;omega)|(exact absurd rfl hc)|conv=>whnf)|(refine CB ?_ ?_<;>intro hc<;>conv=>whnf))
    all_goals first | exact Hf (fun h => e2 h.2.2.2.2) | (trace_state; fail "se2")
theorem AzZ {a b:GG} (ha:AjE a) (hb:AjE b):D8 (Dx tab) 35 [a.av,b.av] (· =.bool (decide (SG a b))):=by
  have hN:=ARm (nl:=a.nn) (nm:=b.nn) ha.1 hb.1 fun x hx y hy=>sn1 (ha.2.2.1 x hx) (hb.2.2.1 y hy)
  have hE:=ARn (nl:=a.en) (nm:=b.en) ha.2.1 hb.2.1 fun x hx y hy=>se1 (ha.2.2.2 x hx) (hb.2.2.2 y hy)
  have hS:D8 (Dx tab) 70 [GG.av {a with AeT:=b.AeT,Afg:=b.Afg},b.av] (· =.bool (decide (SG a b))):=by
    by_cases e1:AeL SN a.nodes b.nodes
    · rw[decide_eq_true e1]at hN
      by_cases e2:AeL SE a.edges b.edges
      · rw[decide_eq_true e2]at hE
        refine Lu rfl rfl ?_
        (conv=>whnf);repeat' (first|(refine BM hN ?_;rintro _ rfl;conv=>whnf)|(refine BM hE ?_;rintro _ rfl;conv=>whnf)|((with_reducible first|apply kN|apply kW|apply kX|apply kG|apply kQ);(· exact sd);conv=>whnf)|(refine DW.mk ?_ ?_<;>intro hc<;>(try rw[List.length_nil]at hc)<;>first|(exfalso;omega)|(exact absurd rfl hc)|conv=>whnf)|(refine CB ?_ ?_<;>intro hc<;>conv=>whnf))
        all_goals first | exact Lp ⟨e1, e2⟩ | (exfalso; omega) | exact absurd rfl (by assumption) | (trace_state; fail "same1")
      · rw[decide_eq_false e2]at hE
        refine Lu rfl rfl ?_
        (conv=>whnf);repeat' (first|(refine BM hN ?_;rintro _ rfl;conv=>whnf)|(refine BM hE ?_;rintro _ rfl;conv=>whnf)|((with_reducible first|apply kN|apply kW|apply kX|apply kG|apply kQ);(· exact sd);conv=>whnf)|(refine DW.mk ?_ ?_<;>intro hc<;>(try rw[List.length_nil]at hc)<;>first|(exfalso;omega)|(exact absurd rfl hc)|conv=>whnf)|(refine CB ?_ ?_<;>intro hc<;>conv=>whnf))
        all_goals first | exact Hf (fun h => e2 h.2) | (exfalso; omega) | exact absurd rfl (by assumption) | (trace_state; fail "same2")
    · rw[decide_eq_false e1]at hN
      refine Lu rfl rfl ?_
      (conv=>whnf);repeat' (first|(refine BM hN ?_;rintro _ rfl;conv=>whnf)|(refine BM hE ?_;rintro _ rfl;conv=>whnf)|((with_reducible first|apply kN|apply kW|apply kX|apply kG|apply kQ);(· exact sd);conv=>whnf)|(refine DW.mk ?_ ?_<;>intro hc<;>(try rw[List.length_nil]at hc)<;>first|(exfalso;omega)|(exact absurd rfl hc)|conv=>whnf)|(refine CB ?_ ?_<;>intro hc<;>conv=>whnf))
      all_goals first | exact Hf (fun h => e1 h.1) | (exfalso; omega) | exact absurd rfl (by assumption) | (trace_state; fail "same3")
  refine Lu rfl rfl ?_
  (conv=>whnf);repeat' (first|(refine BM hS ?_;rintro _ rfl;conv=>whnf)|((with_reducible first|apply kN|apply kW|apply kX|apply kG|apply kQ);(· exact sd);conv=>whnf)|(refine DW.mk ?_ ?_<;>intro hc<;>(try rw[List.length_nil]at hc)<;>first|(exfalso;omega)|(exact absurd rfl hc)|conv=>whnf)|(refine CB ?_ ?_<;>intro hc<;>conv=>whnf))
  all_goals first | (rw [hc]; rfl) | (trace_state; fail "alikeP")
theorem ACc {a b:GG} (ha:AjE a) (hb:AjE b):D8 (Dx tab) 89 [a.av,b.av] (· =.bool (decide (SG a b))):=by
  have a1:=ha.1
  have a2:=ha.2.1
  have b1:=hb.1
  have b2:=hb.2.1
  by_cases hlen:a.nodes.length=b.nodes.length∧a.edges.length=b.edges.length
  case neg=>
    refine Lu rfl rfl ?_
    (conv=>whnf);repeat' (first  |((with_reducible first|apply kN|apply kW|apply kX|apply kG|apply kQ);(· exact sd);conv=>whnf)|(refine DW.mk ?_ ?_<;>intro hc<;>(try rw[List.length_nil]at hc)<;>first|(exfalso;omega)|(exact absurd rfl hc)|conv=>whnf)|(refine CB ?_ ?_<;>intro hc<;>conv=>whnf))
    all_goals first | exact Hf (fun h => hlen ⟨h.1.1, h.2.1⟩) | (exfalso; omega) | (trace_state; fail "parts0")
  obtain⟨hl1,hl2⟩:=hlen
  refine Lu rfl rfl ?_
  (conv=>whnf);repeat' (first  |((with_reducible first|apply kN|apply kW|apply kX|apply kG|apply kQ);(· exact sd);conv=>whnf)|(refine DW.mk ?_ ?_<;>intro hc<;>(try rw[List.length_nil]at hc)<;>first|(exfalso;omega)|(exact absurd rfl hc)|conv=>whnf)|(refine CB ?_ ?_<;>intro hc<;>conv=>whnf))
  all_goals first|(exfalso;omega)|skip
  refine DK (fun z env s=>∃(i c:Nat),z=a.nodes.length-i∧(∀ k (h:k<a.nodes.length) (h':k<b.nodes.length),k<i→SN a.nodes[k] b.nodes[k])∧env=[(2,.ref 0 0 0 0),(3,.ref 1 1 0 0),(5,.int .i64 i)]∧s=⟨[.arr 0 4 true true [a.av],.arr 1 4 true true [b.av]],c⟩) ?_ _ _ _ ⟨0,_,rfl,fun _ _ _ h=>absurd h (by omega),rfl,rfl⟩
  rintro _ _ _ ⟨i,c,rfl,hx,rfl,rfl⟩
  refine⟨rfl,?_⟩
  by_cases hlt:i<a.nodes.length
  · have f1:=ha.2.2.1 _ (List.getElem_mem hlt)
    have f2:=hb.2.2.1 _ (List.getElem_mem (show i<b.nodes.length by omega))
    have c1:=ARg (nl:=(a.nodes[i]).ln) (nm:=(b.nodes[i]'(by omega)).ln) f1.1 f2.1
    have c2:=AAI (nl:=(a.nodes[i]).pn) (nm:=(b.nodes[i]'(by omega)).pn) f1.2 f2.2
    by_cases e1:(a.nodes[i]).labels=(b.nodes[i]'(by omega)).labels
    · rw[decide_eq_true e1]at c1
      by_cases e2:AeL SP (a.nodes[i]).props (b.nodes[i]'(by omega)).props
      · rw[decide_eq_true e2]at c2
        (conv=>whnf);repeat' (first|(refine BM c1 ?_;rintro _ rfl;conv=>whnf)|(refine BM c2 ?_;rintro _ rfl;conv=>whnf)|((with_reducible first|apply kN|apply kW|apply kX|apply kG|apply kQ);(· exact sd);conv=>whnf)|(refine DW.mk ?_ ?_<;>intro hc<;>(try rw[List.length_nil]at hc)<;>first|(exfalso;omega)|(exact absurd rfl hc)|conv=>whnf)|(refine CB ?_ ?_<;>intro hc<;>conv=>whnf))
        all_goals first | exact again.mk ⟨_, by omega, i + 1, _, rfl, Aaw hx hlt (by omega) ⟨by first | assumption | omega, e1, e2⟩, rfl, rfl⟩ | exact Hf (fun h => Vy hlt (by omega) (fun x => absurd x.1 (by assumption)) h.1) | (exfalso; omega) | (trace_state; fail "parts1")
      · rw[decide_eq_false e2]at c2
        (conv=>whnf);repeat' (first|(refine BM c1 ?_;rintro _ rfl;conv=>whnf)|(refine BM c2 ?_;rintro _ rfl;conv=>whnf)|((with_reducible first|apply kN|apply kW|apply kX|apply kG|apply kQ);(· exact sd);conv=>whnf)|(refine DW.mk ?_ ?_<;>intro hc<;>(try rw[List.length_nil]at hc)<;>first|(exfalso;omega)|(exact absurd rfl hc)|conv=>whnf)|(refine CB ?_ ?_<;>intro hc<;>conv=>whnf))
        all_goals first | exact Hf (fun h => Vy hlt (by omega) (fun x => e2 x.2.2) h.1) | (exfalso; omega) | (trace_state; fail "parts2")
    · rw[decide_eq_false e1]at c1
      (conv=>whnf);repeat' (first|(refine BM c1 ?_;rintro _ rfl;conv=>whnf)|(refine BM c2 ?_;rintro _ rfl;conv=>whnf)|((with_reducible first|apply kN|apply kW|apply kX|apply kG|apply kQ);(· exact sd);conv=>whnf)|(refine DW.mk ?_ ?_<;>intro hc<;>(try rw[List.length_nil]at hc)<;>first|(exfalso;omega)|(exact absurd rfl hc)|conv=>whnf)|(refine CB ?_ ?_<;>intro hc<;>conv=>whnf))
      all_goals first | exact Hf (fun h => Vy hlt (by omega) (fun x => e1 x.2.1) h.1) | (exfalso; omega) | (trace_state; fail "parts3")
  have hN:=Afy hl1 hx (by omega)
  clear hx
  (conv=>whnf);repeat' (first  |((with_reducible first|apply kN|apply kW|apply kX|apply kG|apply kQ);(· exact sd);conv=>whnf)|(refine DW.mk ?_ ?_<;>intro hc<;>(try rw[List.length_nil]at hc)<;>first|(exfalso;omega)|(exact absurd rfl hc)|conv=>whnf)|(refine CB ?_ ?_<;>intro hc<;>conv=>whnf))
  all_goals first|(exfalso;omega)|skip
  refine DK (fun z env s=>∃(i c:Nat),z=a.edges.length-i∧(∀ k (h:k<a.edges.length) (h':k<b.edges.length),k<i→SE a.edges[k] b.edges[k])∧env=[(2,.ref 0 0 0 0),(3,.ref 1 1 0 0),(8,.int .i64 i)]∧s=⟨[.arr 0 4 true true [a.av],.arr 1 4 true true [b.av]],c⟩) ?_ _ _ _ ⟨0,_,rfl,fun _ _ _ h=>absurd h (by omega),rfl,rfl⟩
  rintro _ _ _ ⟨i,c,rfl,hx,rfl,rfl⟩
  refine⟨rfl,?_⟩
  by_cases hlt:i<a.edges.length
  · have f1:=ha.2.2.2 _ (List.getElem_mem hlt)
    have f2:=hb.2.2.2 _ (List.getElem_mem (show i<b.edges.length by omega))
    have c2:=AAI (nl:=(a.edges[i]).pn) (nm:=(b.edges[i]'(by omega)).pn) f1 f2
    by_cases e2:AeL SP (a.edges[i]).props (b.edges[i]'(by omega)).props
    · rw[decide_eq_true e2]at c2
      (conv=>whnf);repeat' (first|(refine BM c2 ?_;rintro _ rfl;conv=>whnf)|((with_reducible first|apply kN|apply kW|apply kX|apply kG|apply kQ);(· exact sd);conv=>whnf)|(refine DW.mk ?_ ?_<;>intro hc<;>(try rw[List.length_nil]at hc)<;>first|(exfalso;omega)|(exact absurd rfl hc)|conv=>whnf)|(refine CB ?_ ?_<;>intro hc<;>conv=>whnf))
      all_goals first | exact again.mk ⟨_, by omega, i + 1, _, rfl, Aaw hx hlt (by omega) ⟨by first | assumption | omega, by first | assumption | omega, by first | assumption | omega, by first | assumption | exact Decidable.not_not.1 (by assumption), e2⟩, rfl, rfl⟩ | exact Hf (fun h => Vy hlt (by omega) (fun x => absurd x.1 (by assumption)) h.2) | exact Hf (fun h => Vy hlt (by omega) (fun x => absurd x.2.1 (by assumption)) h.2) | exact Hf (fun h => Vy hlt (by omega) (fun x => absurd x.2.2.1 (by assumption)) h.2) | exact Hf (fun h => Vy hlt (by omega) (fun x => absurd x.2.2.2.1 (by assumption)) h.2) | (exfalso; omega) | (trace_state; fail "parts4")
    · rw[decide_eq_false e2]at c2
      (conv=>whnf);repeat' (first|(refine BM c2 ?_;rintro _ rfl;conv=>whnf)|((with_reducible first|apply kN|apply kW|apply kX|apply kG|apply kQ);(· exact sd);conv=>whnf)|(refine DW.mk ?_ ?_<;>intro hc<;>(try rw[List.length_nil]at hc)<;>first|(exfalso;omega)|(exact absurd rfl hc)|conv=>whnf)|(refine CB ?_ ?_<;>intro hc<;>conv=>whnf))
      all_goals first | exact Hf (fun h => Vy hlt (by omega) (fun x => e2 x.2.2.2.2) h.2) | (exfalso; omega) | (trace_state; fail "parts5")
  · (conv=>whnf);repeat' (first  |((with_reducible first|apply kN|apply kW|apply kX|apply kG|apply kQ);(· exact sd);conv=>whnf)|(refine DW.mk ?_ ?_<;>intro hc<;>(try rw[List.length_nil]at hc)<;>first|(exfalso;omega)|(exact absurd rfl hc)|conv=>whnf)|(refine CB ?_ ?_<;>intro hc<;>conv=>whnf))
    all_goals first | exact Lp ⟨hN, Afy hl2 hx (by omega)⟩ | (exfalso; omega) | (trace_state; fail "parts6")
theorem Aux {a b:GG} (ha:AjE a) (hb:AjE b):D8 (Dx tab) 14 [a.av,b.av] (· =.bool (decide (SG a b))):=by
  have hP:D8 (Dx tab) 89 [GG.av {a with AeT:=b.AeT,Afg:=b.Afg},b.av] (· =.bool (decide (SG a b))):=ACc (a:={a with AeT:=b.AeT,Afg:=b.Afg}) ha hb
  have hS:D8 (Dx tab) 42 [GG.av {a with AeT:=b.AeT,Afg:=b.Afg},b.av] (· =.bool (decide (SG a b))):=by
    refine Lu rfl rfl ?_
    (conv=>whnf);repeat' (first|(refine BM hP ?_;rintro _ rfl;conv=>whnf)|((with_reducible first|apply kN|apply kW|apply kX|apply kG|apply kQ);(· exact sd);conv=>whnf)|(refine DW.mk ?_ ?_<;>intro hc<;>(try rw[List.length_nil]at hc)<;>first|(exfalso;omega)|(exact absurd rfl hc)|conv=>whnf)|(refine CB ?_ ?_<;>intro hc<;>conv=>whnf))
    all_goals first | (rw [hc]; rfl) | exact absurd rfl (by assumption) | (exfalso; omega) | (trace_state; fail "sameR")
  refine Lu rfl rfl ?_
  (conv=>whnf);repeat' (first|(refine BM hS ?_;rintro _ rfl;conv=>whnf)|((with_reducible first|apply kN|apply kW|apply kX|apply kG|apply kQ);(· exact sd);conv=>whnf)|(refine DW.mk ?_ ?_<;>intro hc<;>(try rw[List.length_nil]at hc)<;>first|(exfalso;omega)|(exact absurd rfl hc)|conv=>whnf)|(refine CB ?_ ?_<;>intro hc<;>conv=>whnf))
  all_goals first | (rw [hc]; rfl) | (trace_state; fail "alikeR")
end AI
end Go.Proofs.YtnbibfalljlmfaaGreatDoor
