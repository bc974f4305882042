/- Values compared by the program: equal, less, at most (that they answer). Sorting in place: lists of a store against arrays of the library's plain sort. math/bits.Len and the next power of two. Orders: lexicographic, of numbers, of strings; the first that is not 0. The arguments of the laws about indexes: entries, questions. -/
import Derived.Test.YtnbibfalljlmfaaGreatDoorMba
import Derived.Test.YtnbibfalljlmfaaGreatDoorMbb
import Derived.Test.YtnbibfalljlmfaaGreatDoorGrCode
import Derived.Test.YtnbibfalljlmfaaGreatDoorMaa
import Derived.Sort.AssemblyPlain
set_option linter.unusedVariables false
set_option maxRecDepth 4000
namespace Go.Proofs.YtnbibfalljlmfaaGreatDoor
namespace AI
def AyP (g:GV):Prop:=VV 8 g∧(g.k=2∨g.k=3)
noncomputable instance (g:GV):Decidable (AyP g):=by unfold AyP;infer_instance
def dn (g:GV):Int:=if g.k=2 then 1 else g.d
theorem Apb {g:GV} (h:AyP g):VF g.n (dn g):=by
  obtain⟨hv,hk⟩:=h
  rw[Axo (by omega) (by omega)]at hv
  obtain⟨h1,h2⟩:=hv
  unfold dn
  rcases hk with hk|hk
  · rw[if_pos hk]
    rcases h2 with h|h|h|h|h|h<;>first|(exfalso;omega)|exact⟨by omega,by omega,h.2.1,by simp⟩
  · rw[if_neg (by omega)]
    rcases h2 with h|h|h|h|h|h<;>first|(exfalso;omega)|exact h.2.2.1
theorem vP {g:GV} (hg:g.ok) (h:VV 8 g):D8 (Dx tab) 192 [g.av] (· =.bool true):=by have:=AVA hg;rwa [decide_eq_true h]at this
theorem vPn {g:GV} (hg:g.ok) (h:¬VV 8 g):D8 (Dx tab) 192 [g.av] (· =.bool false):=by have:=AVA hg;rwa [decide_eq_false h]at this
theorem nP1 {g:GV} (hg:g.ok) (h:AyP g):D8 (Dx tab) 246 [g.av] (· =.tup [.agg [.int .i64 g.n,.int .i64 (dn g)],.bool true]):=by
  have hv:=vP hg h.1
  rcases h.2 with hk|hk
  · have e:dn g=1:=if_pos hk
    rw[e]
    refine Lu rfl rfl ?_
    (conv=>whnf);repeat' (first|(refine BM hv ?_;rintro _ rfl;conv=>whnf)|((with_reducible first|apply kN|apply kW|apply kX|apply kG|apply kQ);(· exact sd);conv=>whnf)|(refine DW.mk ?_ ?_<;>intro hc<;>(try rw[List.length_nil]at hc)<;>first|(exfalso;omega)|(exact absurd rfl hc)|conv=>whnf)|(refine CB ?_ ?_<;>intro hc<;>conv=>whnf))
    all_goals first | rfl | (trace_state; fail "nP1")
  · have e:dn g=g.d:=if_neg (by omega)
    rw[e]
    refine Lu rfl rfl ?_
    (conv=>whnf);repeat' (first|(refine BM hv ?_;rintro _ rfl;conv=>whnf)|((with_reducible first|apply kN|apply kW|apply kX|apply kG|apply kQ);(· exact sd);conv=>whnf)|(refine DW.mk ?_ ?_<;>intro hc<;>(try rw[List.length_nil]at hc)<;>first|(exfalso;omega)|(exact absurd rfl hc)|conv=>whnf)|(refine CB ?_ ?_<;>intro hc<;>conv=>whnf))
    all_goals first | rfl | (trace_state; fail "nP1")
theorem nP0 {g:GV} (hg:g.ok) (h:¬AyP g):D8 (Dx tab) 246 [g.av] (· =.tup [.agg [.int .i64 0,.int .i64 0],.bool false]):=by
  by_cases hk:g.k=2∨g.k=3
  · have hv:=vPn hg (fun hv=>h ⟨hv,hk⟩)
    refine Lu rfl rfl ?_
    (conv=>whnf);repeat' (first|(refine BM hv ?_;rintro _ rfl;conv=>whnf)|((with_reducible first|apply kN|apply kW|apply kX|apply kG|apply kQ);(· exact sd);conv=>whnf)|(refine DW.mk ?_ ?_<;>intro hc<;>(try rw[List.length_nil]at hc)<;>first|(exfalso;omega)|(exact absurd rfl hc)|conv=>whnf)|(refine CB ?_ ?_<;>intro hc<;>conv=>whnf))
    all_goals first | rfl | (trace_state; fail "nP0")
  · refine Lu rfl rfl ?_
    (conv=>whnf);repeat' (first  |((with_reducible first|apply kN|apply kW|apply kX|apply kG|apply kQ);(· exact sd);conv=>whnf)|(refine DW.mk ?_ ?_<;>intro hc<;>(try rw[List.length_nil]at hc)<;>first|(exfalso;omega)|(exact absurd rfl hc)|conv=>whnf)|(refine CB ?_ ?_<;>intro hc<;>conv=>whnf))
    all_goals first | rfl | (trace_state; fail "nP0")
theorem truthT:D8 (Dx tab) 247 [.bool true] (· =.int .i64 2):=⟨_,⟨20,by kernel_rfl⟩,rfl⟩
theorem truthF:D8 (Dx tab) 247 [.bool false] (· =.int .i64 0):=⟨_,⟨20,by kernel_rfl⟩,rfl⟩
theorem ARk {a b c d:Int}:AXQ (.flat [.int,.int]) (.agg [.int .i64 a,.int .i64 b]) (.agg [.int .i64 c,.int .i64 d])=some (decide (a=c∧b=d)):=by
  have e:∀z z':Int,(z==z')=decide (z=z'):=fun z z'=>by by_cases h:z=z'<;>simp[h]
  by_cases h1:a=c<;>by_cases h2:b=d<;>simp[AXQ,AVf,AVg,e,h1,h2]
theorem ARp : ∀ {m k : Nat} {g:GV},m≤k→VV m g→VV k g
  | m, 0, g, h, hv => by obtain rfl:m=0:=by omega
                         exact hv
  | m,k+1,g,h,hv=>by
    rcases Nat.lt_or_ge m (k+1)with h1|h1
    · exact ACa (ARp (by omega) hv)
    · obtain rfl:m=k+1:=by omega
      exact hv
def Tri (v:AV):Prop:=∃e:Int,v=.int .i64 e∧0≤e∧e≤2
theorem knownT {a:Int}:D8 (Dx tab) 289 [.int .i64 a] Tri:=by
  refine Lu rfl rfl ?_
  (conv=>whnf);repeat' (first  |((with_reducible first|apply kN|apply kW|apply kX|apply kG|apply kQ);(· exact sd);conv=>whnf)|(refine DW.mk ?_ ?_<;>intro hc<;>(try rw[List.length_nil]at hc)<;>first|(exfalso;omega)|(exact absurd rfl hc)|conv=>whnf)|(refine CB ?_ ?_<;>intro hc<;>conv=>whnf))
  all_goals first | exact ⟨_, rfl, by omega, by omega⟩ | (trace_state; fail "known")
theorem andT {a b:Int}:D8 (Dx tab) 250 [.int .i64 a,.int .i64 b] Tri:=by
  obtain⟨_,⟨x,rfl,x1,x2⟩,p1⟩:=(knownT (a:=a)).det
  obtain⟨_,⟨y,rfl,y1,y2⟩,p2⟩:=(knownT (a:=b)).det
  refine Lu rfl rfl ?_
  (conv=>whnf);repeat' (first|(refine BM p1 ?_;rintro _ rfl;conv=>whnf)|(refine BM p2 ?_;rintro _ rfl;conv=>whnf)|((with_reducible first|apply kN|apply kW|apply kX|apply kG|apply kQ);(· exact sd);conv=>whnf)|(refine DW.mk ?_ ?_<;>intro hc<;>(try rw[List.length_nil]at hc)<;>first|(exfalso;omega)|(exact absurd rfl hc)|conv=>whnf)|(refine CB ?_ ?_<;>intro hc<;>conv=>whnf))
  all_goals first | exact ⟨_, rfl, by omega, by omega⟩ | exact ⟨_, rfl, by split <;> omega, by split <;> omega⟩ | (trace_state; fail "andT")
theorem numT {a:GV} (ha:a.ok):∃x y t,D8 (Dx tab) 246 [a.av] (· =.tup [.agg [.int .i64 x,.int .i64 y],.bool t])∧(t=true→AyP a∧x=a.n∧y=dn a):=by
  by_cases h:AyP a
  · exact⟨_,_,true,nP1 ha h,fun _=>⟨h,rfl,rfl⟩⟩
  · exact⟨_,_,false,nP0 ha h,fun h=>Bool.noConfusion h⟩
theorem equalLf {a b:GV} (ha:a.ok) (hb:b.ok) (hab:a.k=b.k→a.k≠7∧a.k≠8):D8 (Dx tab) 193 [a.av,b.av] Tri:=by
  obtain⟨x1,y1,b1,p1,-⟩:=numT ha
  obtain⟨x2,y2,b2,p2,-⟩:=numT hb
  cases b1<;>cases b2
  all_goals
    refine Lu rfl rfl ?_
    (conv=>whnf);repeat' (first|(refine BM p1 ?_;rintro _ rfl;conv=>whnf)|(refine BM p2 ?_;rintro _ rfl;conv=>whnf)|(refine BM truthT ?_;rintro _ rfl;conv=>whnf)|(refine BM truthF ?_;rintro _ rfl;conv=>whnf)|(refine Ez (congrArg (Option.map AV.bool) ARk) ?_;conv=>whnf)|((with_reducible first|apply kN|apply kW|apply kX|apply kG|apply kQ);(· exact sd);conv=>whnf)|(refine DW.mk ?_ ?_<;>intro hc<;>(try rw[List.length_nil]at hc)<;>first|(exfalso;omega)|(exact absurd rfl hc)|conv=>whnf)|(refine CB ?_ ?_<;>intro hc<;>conv=>whnf))
    all_goals first | exact ⟨_, rfl, by omega, by omega⟩ | (exfalso; omega) | (trace_state; fail "equalLf")
theorem equalLs {a b:GV} (ha:a.ok) (hb:b.ok) (hk:a.k=b.k) (h78:a.k=7∨a.k=8) (hel:∀i (h:i<a.l.length) (h':i<b.l.length),D8 (Dx tab) 193 [a.l[i],b.l[i]] Tri):D8 (Dx tab) 193 [a.av,b.av] Tri:=by
  have p1:=nP0 ha (fun h=>by have:=h.2;omega)
  have p2:=nP0 hb (fun h=>by have:=h.2;omega)
  have la:a.l.length<2^63:=ha.2.2.2.2.1
  have lb:b.l.length<2^63:=hb.2.2.2.2.1
  by_cases hl:a.l.length=b.l.length
  case neg=>
    refine Lu rfl rfl ?_
    (conv=>whnf);repeat' (first|(refine BM p1 ?_;rintro _ rfl;conv=>whnf)|(refine BM p2 ?_;rintro _ rfl;conv=>whnf)|((with_reducible first|apply kN|apply kW|apply kX|apply kG|apply kQ);(· exact sd);conv=>whnf)|(refine DW.mk ?_ ?_<;>intro hc<;>(try rw[List.length_nil]at hc)<;>first|(exfalso;omega)|(exact absurd rfl hc)|conv=>whnf)|(refine CB ?_ ?_<;>intro hc<;>conv=>whnf))
    all_goals first | exact ⟨_, rfl, by omega, by omega⟩ | (trace_state; fail "eqLs0")
  case pos=>
    refine Lu rfl rfl ?_
    (conv=>whnf);repeat' (first|(refine BM p1 ?_;rintro _ rfl;conv=>whnf)|(refine BM p2 ?_;rintro _ rfl;conv=>whnf)|((with_reducible first|apply kN|apply kW|apply kX|apply kG|apply kQ);(· exact sd);conv=>whnf)|(refine DW.mk ?_ ?_<;>intro hc<;>(try rw[List.length_nil]at hc)<;>first|(exfalso;omega)|(exact absurd rfl hc)|conv=>whnf)|(refine CB ?_ ?_<;>intro hc<;>conv=>whnf))
    all_goals
      refine DK (fun m env s=>∃(i c:Nat) (t:Int),m=a.l.length-i∧i≤a.l.length∧0≤t∧t≤2∧env=[(2,.ref 0 0 0 0),(3,.ref 1 1 0 0),(9,.int .i64 t),(76,.int .i64 a.l.length),(77,.int .i64 i)]∧s=⟨[.arr 0 5 true true [a.av],.arr 1 5 true true [b.av],.arr 2 2 true true [.agg [.int .i64 0,.int .i64 0]],.arr 3 2 true true [.agg [.int .i64 0,.int .i64 0]]],c⟩) ?_ _ _ _ ⟨0,_,_,rfl,by omega,by decide,by decide,rfl,rfl⟩
      rintro _ _ _ ⟨i,c,t,rfl,hi,t1,t2,rfl,rfl⟩
      refine⟨rfl,?_⟩
      by_cases hlt:i<a.l.length
      · obtain⟨gx,hgx⟩:=Amk ha.2.2.2.2.2.2 i
        obtain⟨gy,hgy⟩:=Amk hb.2.2.2.2.2.2 i
        obtain⟨hn,hxe,hok⟩:=hgx hlt
        obtain⟨hn',hye,hok'⟩:=hgy (by omega)
        have k2:=hel i hlt (by omega)
        rw[hxe,hye]at k2
        obtain⟨_,⟨e,rfl,e1,e2⟩,k3⟩:=k2.det
        obtain⟨_,⟨w,rfl,w1,w2⟩,k4⟩:=(andT (a:=t) (b:=e)).det
        (conv=>whnf);repeat' (first|(apply LX;(· exact hn);conv=>whnf)|(apply LX;(· exact hn');conv=>whnf)|(refine BM k3 ?_;rintro _ rfl;conv=>whnf)|(refine BM k4 ?_;rintro _ rfl;conv=>whnf)|((with_reducible first|apply kN|apply kW|apply kX|apply kG|apply kQ);(· exact sd);conv=>whnf)|(refine DW.mk ?_ ?_<;>intro hc<;>(try rw[List.length_nil]at hc)<;>first|(exfalso;omega)|(exact absurd rfl hc)|conv=>whnf)|(refine CB ?_ ?_<;>intro hc<;>conv=>whnf))
        all_goals first | exact again.mk ⟨_, by omega, i + 1, _, w, rfl, by omega, w1, w2, rfl, rfl⟩ | (trace_state; fail "eqLss")
      · (conv=>whnf);repeat' (first  |((with_reducible first|apply kN|apply kW|apply kX|apply kG|apply kQ);(· exact sd);conv=>whnf)|(refine DW.mk ?_ ?_<;>intro hc<;>(try rw[List.length_nil]at hc)<;>first|(exfalso;omega)|(exact absurd rfl hc)|conv=>whnf)|(refine CB ?_ ?_<;>intro hc<;>conv=>whnf))
        all_goals first | exact ⟨t, rfl, t1, t2⟩ | (exfalso; omega) | (trace_state; fail "eqLse")
theorem equalT:∀(m:Nat),m≤8→∀{a b:GV},a.ok→b.ok→VV m a→VV 8 b→D8 (Dx tab) 193 [a.av,b.av] Tri:=by
  intro m
  induction m with
  | zero=>
    intro hm a b ha hb va vb
    by_cases hab:a.k=b.k∧(a.k=7∨a.k=8)
    · have h7:a.k=7:=hab.2.elim id fun h=>absurd va (AG4 h)
      refine equalLs ha hb hab.1 hab.2 fun i h h'=>?_
      obtain⟨x,e1,_,x2⟩:=((AyL h7).1 va).2.2.2.2.2 i h
      obtain⟨gx,hgx⟩:=Amk ha.2.2.2.2.2.2 i
      obtain⟨gy,hgy⟩:=Amk hb.2.2.2.2.2.2 i
      obtain⟨_,f1,f2⟩:=hgx h
      obtain⟨_,f3,f4⟩:=hgy h'
      rw[e1]at f1
      obtain rfl:=GV.AmG f1
      rw[e1,f3]
      have kx:=AK8 x2
      exact equalLf f2 f4 fun _=>⟨by omega,by omega⟩
    · exact equalLf ha hb fun h=>⟨fun h7=>hab ⟨h,.inl h7⟩,fun h8=>hab ⟨h,.inr h8⟩⟩
  | succ m ih=>
    intro hm a b ha hb va vb
    by_cases hab:a.k=b.k∧(a.k=7∨a.k=8)
    · rcases hab.2 with h7|h8
      · refine equalLs ha hb hab.1 hab.2 fun i h h'=>?_
        obtain⟨x,e1,_,x2⟩:=((AyL h7).1 va).2.2.2.2.2 i h
        obtain⟨gx,hgx⟩:=Amk ha.2.2.2.2.2.2 i
        obtain⟨gy,hgy⟩:=Amk hb.2.2.2.2.2.2 i
        obtain⟨_,f1,f2⟩:=hgx h
        obtain⟨_,f3,f4⟩:=hgy h'
        rw[e1]at f1
        obtain rfl:=GV.AmG f1
        rw[e1,f3]
        have kx:=AK8 x2
        exact equalLf f2 f4 fun _=>⟨by omega,by omega⟩
      · refine equalLs ha hb hab.1 hab.2 fun i h h'=>?_
        obtain⟨x,e1,x2⟩:=((ABQ h8).1 va).2.2.2.2 i h
        obtain⟨y,e2,y2⟩:=((ABQ (m:=7) (by omega)).1 vb).2.2.2.2 i h'
        obtain⟨gx,hgx⟩:=Amk ha.2.2.2.2.2.2 i
        obtain⟨gy,hgy⟩:=Amk hb.2.2.2.2.2.2 i
        obtain⟨_,f1,f2⟩:=hgx h
        obtain⟨_,f3,f4⟩:=hgy h'
        rw[e1]at f1;rw[e2]at f3
        obtain rfl:=GV.AmG f1
        obtain rfl:=GV.AmG f3
        rw[e1,e2]
        exact ih (by omega) f2 f4 x2 (ARp (m:=7) (by omega) y2)
    · exact equalLf ha hb fun h=>⟨fun h7=>hab ⟨h,.inl h7⟩,fun h8=>hab ⟨h,.inr h8⟩⟩
theorem validT {a:GV} (ha:a.ok):∃t,D8 (Dx tab) 192 [a.av] (· =.bool t)∧(t=true→VV 8 a):=⟨_,AVA ha,of_decide_eq_true⟩
theorem AVC {a b:GV} (ha:a.ok) (hb:b.ok):D8 (Dx tab) 111 [a.av,b.av] Tri:=by
  obtain⟨t1,p1,q1⟩:=validT ha
  obtain⟨t2,p2,q2⟩:=validT hb
  cases t1 with
  | false=>
    refine Lu rfl rfl ?_
    (conv=>whnf);repeat' (first|(refine BM p1 ?_;rintro _ rfl;conv=>whnf)|((with_reducible first|apply kN|apply kW|apply kX|apply kG|apply kQ);(· exact sd);conv=>whnf)|(refine DW.mk ?_ ?_<;>intro hc<;>(try rw[List.length_nil]at hc)<;>first|(exfalso;omega)|(exact absurd rfl hc)|conv=>whnf)|(refine CB ?_ ?_<;>intro hc<;>conv=>whnf))
    all_goals first | exact ⟨_, rfl, by omega, by omega⟩ | (trace_state; fail "EqualT1")
  | true=>
    cases t2 with
    | false=>
      refine Lu rfl rfl ?_
      (conv=>whnf);repeat' (first|(refine BM p1 ?_;rintro _ rfl;conv=>whnf)|(refine BM p2 ?_;rintro _ rfl;conv=>whnf)|((with_reducible first|apply kN|apply kW|apply kX|apply kG|apply kQ);(· exact sd);conv=>whnf)|(refine DW.mk ?_ ?_<;>intro hc<;>(try rw[List.length_nil]at hc)<;>first|(exfalso;omega)|(exact absurd rfl hc)|conv=>whnf)|(refine CB ?_ ?_<;>intro hc<;>conv=>whnf))
      all_goals first | exact ⟨_, rfl, by omega, by omega⟩ | (trace_state; fail "EqualT2")
    | true=>
      obtain⟨_,⟨e,rfl,e1,e2⟩,p3⟩:=(equalT 8 (by omega) ha hb (q1 rfl) (q2 rfl)).det
      refine Lu rfl rfl ?_
      (conv=>whnf);repeat' (first|(refine BM p1 ?_;rintro _ rfl;conv=>whnf)|(refine BM p2 ?_;rintro _ rfl;conv=>whnf)|(refine BM p3 ?_;rintro _ rfl;conv=>whnf)|((with_reducible first|apply kN|apply kW|apply kX|apply kG|apply kQ);(· exact sd);conv=>whnf)|(refine DW.mk ?_ ?_<;>intro hc<;>(try rw[List.length_nil]at hc)<;>first|(exfalso;omega)|(exact absurd rfl hc)|conv=>whnf)|(refine CB ?_ ?_<;>intro hc<;>conv=>whnf))
      all_goals first | exact ⟨_, rfl, by omega, by omega⟩ | (trace_state; fail "EqualT3")
theorem cmpT3 {n1 d1 n2 d2:Int} (hf:VF n1 d1) (hg:VF n2 d2):D8 (Dx tab) 248 [.agg [.int .i64 n1,.int .i64 d1],.agg [.int .i64 n2,.int .i64 d2]] (fun v=>∃z,v=.int .i64 z):=by
  have v1:D8 (Dx tab) 281 [.agg [.int .i64 n1,.int .i64 d1]] (· =.bool true):=by have:=fvP (n:=n1) (d:=d1);rwa [decide_eq_true hf]at this
  have v2:D8 (Dx tab) 281 [.agg [.int .i64 n2,.int .i64 d2]] (· =.bool true):=by have:=fvP (n:=n2) (d:=d2);rwa [decide_eq_true hg]at this
  have e1:inR d1:=by have:=hf.1;have:=hf.2.1;unfold inR;omega
  have e2:inR d2:=by have:=hg.1;have:=hg.2.1;unfold inR;omega
  have e3:inR (0-n2):=by have:=hg.2.2.1;unfold inR at *;omega
  have r2:-1000000000000000≤n2∧n2≤1000000000000000:=hg.2.2.1
  have m1:=Nat.mul_le_mul (Afz hf.2.2.1) (Afz e2)
  have m2:=Nat.mul_le_mul (Afz e3) (Afz e1)
  have p1:=Aqf hf.2.2.1 e2
  have p2:=Aqf e3 e1
  have p3:=ARr (a:=decide (n1<0) != decide (d2<0)) (m:=n1.natAbs*d2.natAbs) (b:=decide (0-n2<0) != decide (d1<0)) (n:=(0-n2).natAbs*d1.natAbs) (by omega) (by omega)
  obtain⟨a,m,e4,e5⟩:∃a m,Aw5 (decide (n1<0) != decide (d2<0)) (n1.natAbs*d2.natAbs) (decide (0-n2<0) != decide (d1<0)) ((0-n2).natAbs*d1.natAbs)=wd a m∧m<2^127:=by
    unfold Aw5
    split
    · exact⟨_,_,rfl,by omega⟩
    · split
      · exact⟨_,_,rfl,by omega⟩
      · exact⟨_,_,rfl,by omega⟩
  rw[e4]at p3
  have p4:=AHk (a:=a) e5
  refine Lu rfl rfl ?_
  (conv=>whnf);repeat' (first|(refine BM v1 ?_;rintro _ rfl;conv=>whnf)|(refine BM v2 ?_;rintro _ rfl;conv=>whnf)|(refine BM p1 ?_;rintro _ rfl;conv=>whnf)|(refine BM p2 ?_;rintro _ rfl;conv=>whnf)|(refine BM p3 ?_;rintro _ rfl;conv=>whnf)|(refine BM p4 ?_;rintro _ rfl;conv=>whnf)|((with_reducible first|apply kN|apply kW|apply kX|apply kG|apply kQ);(· exact sd);conv=>whnf)|(refine DW.mk ?_ ?_<;>intro hc<;>(try rw[List.length_nil]at hc)<;>first|(exfalso;omega)|(exact absurd rfl hc)|conv=>whnf)|(refine CB ?_ ?_<;>intro hc<;>conv=>whnf))
  all_goals first | exact ⟨_, rfl⟩ | (trace_state; fail "cmpT3")
theorem AWQ {a b:GV} (ha:a.ok) (hb:b.ok):D8 (Dx tab) 191 [a.av,b.av] Tri:=by
  obtain⟨x1,y1,b1,p1,q1⟩:=numT ha
  obtain⟨x2,y2,b2,p2,q2⟩:=numT hb
  obtain⟨t1,v1,-⟩:=validT ha
  obtain⟨t2,v2,-⟩:=validT hb
  by_cases hbb:b1=true∧b2=true
  · obtain⟨rfl,rfl⟩:=hbb
    obtain⟨n1,rfl,rfl⟩:=q1 rfl
    obtain⟨n2,rfl,rfl⟩:=q2 rfl
    obtain⟨_,⟨z,rfl⟩,c1⟩:=(cmpT3 (Apb n1) (Apb n2)).det
    refine Lu rfl rfl ?_
    (conv=>whnf);repeat' (first|(refine BM p1 ?_;rintro _ rfl;conv=>whnf)|(refine BM p2 ?_;rintro _ rfl;conv=>whnf)|(refine BM c1 ?_;rintro _ rfl;conv=>whnf)|(refine BM truthT ?_;rintro _ rfl;conv=>whnf)|(refine BM truthF ?_;rintro _ rfl;conv=>whnf)|((with_reducible first|apply kN|apply kW|apply kX|apply kG|apply kQ);(· exact sd);conv=>whnf)|(refine DW.mk ?_ ?_<;>intro hc<;>(try rw[List.length_nil]at hc)<;>first|(exfalso;omega)|(exact absurd rfl hc)|conv=>whnf)|(refine CB ?_ ?_<;>intro hc<;>conv=>whnf))
    all_goals first | exact ⟨_, rfl, by omega, by omega⟩ | (trace_state; fail "LessT1")
  · clear q1 q2
    cases b1<;>cases b2<;>(try exact absurd ⟨rfl,rfl⟩ hbb)
    all_goals
      cases t1<;>cases t2
      all_goals
        refine Lu rfl rfl ?_
        (conv=>whnf);repeat' (first|(refine BM p1 ?_;rintro _ rfl;conv=>whnf)|(refine BM p2 ?_;rintro _ rfl;conv=>whnf)|(refine BM v1 ?_;rintro _ rfl;conv=>whnf)|(refine BM v2 ?_;rintro _ rfl;conv=>whnf)|(refine BM truthT ?_;rintro _ rfl;conv=>whnf)|(refine BM truthF ?_;rintro _ rfl;conv=>whnf)|((with_reducible first|apply kN|apply kW|apply kX|apply kG|apply kQ);(· exact sd);conv=>whnf)|(refine DW.mk ?_ ?_<;>intro hc<;>(try rw[List.length_nil]at hc)<;>first|(exfalso;omega)|(exact absurd rfl hc)|conv=>whnf)|(refine CB ?_ ?_<;>intro hc<;>conv=>whnf))
        all_goals first | exact ⟨_, rfl, by omega, by omega⟩ | (trace_state; fail "LessT2")
theorem Axx {v:GV} (hv:v.ok):D8 (Dx tab) 108 [v.av] (· =.bool (decide (isNull v))):=by
  obtain⟨_,⟨z,rfl,hz⟩,h⟩:=(AEc hv).det
  refine Lu rfl rfl ?_
  (conv=>whnf);repeat' (first|(refine BM nullVP ?_;rintro _ rfl;conv=>whnf)|(refine BM h ?_;rintro _ rfl;conv=>whnf)|((with_reducible first|apply kN|apply kW|apply kX|apply kG|apply kQ);(· exact sd);conv=>whnf)|(refine DW.mk ?_ ?_<;>intro hc<;>(try rw[List.length_nil]at hc)<;>first|(exfalso;omega)|(exact absurd rfl hc)|conv=>whnf)|(refine CB ?_ ?_<;>intro hc<;>conv=>whnf))
  all_goals first | exact Lp (hz.1 (by assumption)) | exact Hf (fun h => absurd (hz.2 h) (by assumption)) | (trace_state; fail "nullP")
section
open Go.Sort
section
variable {α:Type} [Inhabited α] {f:α→AV}
theorem nP {d:Array α} {z:Int} (i:Nat) (hz:z=i) (h:i<d.size):nth (vs f d.toList) (Int.toNat z)=some (f d[i]!):=by
  rw[nVz i hz (by simpa using h)]
  simp[h]
omit [Inhabited α]in
theorem tP {es:Nat} (hf:∀x,(f x).cells.length=es) {d:Array α} {z:Int} (i:Nat) (hz:z=i) {x y:α}:(vs f d.toList).set (Int.toNat z) (writeCells (f y) 0 (f x))=vs f (d.setIfInBounds i x).toList:=by
  subst hz
  have e:writeCells (f y) 0 (f x)=f x:=by
    unfold writeCells
    rw[if_pos ⟨rfl,by rw[hf,hf]⟩]
  rw[e]
  show(vs f d.toList).set i (f x)=_
  simp[vs,List.map_set]
theorem nPK {d:Array α} {z:Int} {K:AV→Prop} (i:Nat) (k:K (f d[i]!)) (hz:z=i:=by omega) (h:i<d.size:=by first|omega|(simp;omega)):Iw (vs f d.toList) (Int.toNat z) K:=LX (nP i hz h) k
omit [Inhabited α]in
theorem tPK {es:Nat} (hf:∀x,(f x).cells.length=es) {d:Array α} {z:Int} {x y:α} {K:List AV→Prop} (i:Nat) (k:K (vs f (d.setIfInBounds i x).toList)) (hz:z=i:=by omega):eqK ((vs f d.toList).set (Int.toNat z) (writeCells (f y) 0 (f x))) K:=KJ (tP hf i hz) k
@[simp] theorem swp_sz (d:Array α) (i j:Nat):(swp d i j).size=d.size:=by simp[swp]
variable {lt:α→α→Bool} {a b i j hi first root:Nat} {d:Array α}
theorem Awy (h1:a<j+1) (h2:lt d[j+1]! d[j]! =true):insInner lt a (j+1) d=insInner lt a j (swp d (j+1) j):=by
  rw[insInner,if_pos (by simp[h1,h2])]
theorem Alr (h:a<j+1→lt d[j+1]! d[j]! =false):insInner lt a (j+1) d=d:=by
  rw[insInner,if_neg]
  simp only[Bool.and_eq_true,decide_eq_true_eq,not_and]
  intro h1 h2
  rw[h h1]at h2;cases h2
theorem ABc (h:i<b):insOuter lt a b i d=insOuter lt a b (i+1) (insInner lt a i d):=by rw[insOuter,if_pos h]
theorem ABd (h:¬i<b):insOuter lt a b i d=d:=by rw[insOuter,if_neg h]
@[simp] theorem insInner_sz:∀{j:Nat} {d:Array α},(insInner lt a j d).size=d.size
  |0,d=>rfl
  | j+1,d=>by
    rw[insInner]
    split
    · rw[insInner_sz,swp_sz]
    · rfl
theorem Azb (h:hi≤2*root+1):siftDown lt hi first root d=d:=by
  rw[siftDown,dif_pos h]
theorem AJ4 (h:2*root+1+1<hi) (h1:lt d[first+(2*root+1)]! d[first+(2*root+1)+1]! =true) (h2:lt d[first+root]! d[first+(2*root+2)]! =true):
    siftDown lt hi first root d=siftDown lt hi first (2*root+2) (swp d (first+root) (first+(2*root+2))):=by
  rw[siftDown,dif_neg (by omega),if_pos (by simp[h,h1]),if_neg (by simp[h2]),dif_pos (by omega)]
theorem ABe (h:2*root+1+1<hi) (h1:lt d[first+(2*root+1)]! d[first+(2*root+1)+1]! =true) (h2:lt d[first+root]! d[first+(2*root+2)]! =false):
    siftDown lt hi first root d=d:=by
  rw[siftDown,dif_neg (by omega),if_pos (by simp[h,h1]),if_pos (by simp[h2])]
theorem Axf (h:¬hi≤2*root+1) (h1:2*root+1+1<hi→lt d[first+(2*root+1)]! d[first+(2*root+1)+1]! =false) (h2:lt d[first+root]! d[first+(2*root+1)]! =true):
    siftDown lt hi first root d=siftDown lt hi first (2*root+1) (swp d (first+root) (first+(2*root+1))):=by
  rw[siftDown,dif_neg h,if_neg,if_neg (by simp[h2])]
  simp only[Bool.and_eq_true,decide_eq_true_eq,not_and]
  intro h3 h4
  rw[h1 h3]at h4;cases h4
theorem Aum (h:¬hi≤2*root+1) (h1:2*root+1+1<hi→lt d[first+(2*root+1)]! d[first+(2*root+1)+1]! =false) (h2:lt d[first+root]! d[first+(2*root+1)]! =false):
    siftDown lt hi first root d=d:=by
  rw[siftDown,dif_neg h,if_neg,if_pos (by simp[h2])]
  simp only[Bool.and_eq_true,decide_eq_true_eq,not_and]
  intro h3 h4
  rw[h1 h3]at h4;cases h4
theorem siftDown_sz {lt:α→α→Bool} {hi first:Nat}:∀(n root:Nat) (d:Array α),hi-root≤n→(siftDown lt hi first root d).size=d.size:=by
  intro n
  induction n with
  |zero=>intro root d h;rw[Azb (by omega)]
  | succ n ih=>
    intro root d h
    rw[siftDown]
    split
    · rfl
    · split
      · split
        · rfl
        · split
          · rw[ih _ _ (by omega),swp_sz]
          · rfl
      · split
        · rfl
        · rw[ih _ _ (by omega),swp_sz]
@[simp] theorem sift_sz:(siftDown lt hi first root d).size=d.size:=siftDown_sz (hi-root) root d (Nat.le_refl _)
@[simp] theorem heapBuild_sz:∀{k:Nat} {d:Array α},(heapBuild lt hi first k d).size=d.size
  |0,d=>rfl
  |k+1,d=>by rw[heapBuild,heapBuild_sz,sift_sz]
end
theorem AcQ {AP:Nat→Option AFn} {f:Nat} {args:List AV} {b:Bool} {K:AV→Prop} (h:D8 AP f args (· =.bool b)) (h1:b=true→K (.bool true)) (h2:b=false→K (.bool false)):callK AP f args K:=by
  refine BM h ?_
  rintro _ rfl
  cases b with
  |true=>exact h1 rfl
  |false=>exact h2 rfl
theorem AgJ {z:Int} {K:AV→Prop} (n k:Nat) (hz:z=n) (h:n<2^63) (h2:K (.int .i64 ((n / k:Nat):Int))):ARy .i64 (z.tdiv k) K:=by
  subst hz
  have e:(n:Int).tdiv k=((n / k:Nat):Int):=by
    rw[Int.tdiv_eq_ediv_of_nonneg (by omega)];rfl
  rw[e]
  have h3:n / k≤n:=Nat.div_le_self ..
  revert h2 h3 e
  generalize n / k=m
  intro h2 e h3
  exact ZH (wrap_i64 (by omega) (by omega)) h2
end
section
open Go.Sort
theorem AJ9 {k:IntKind} {z:Int} (hk:k.signed=false) (h:0≤z) (h2:z<2 ^ k.bits):k.wrap z=z:=by
  simp only[IntKind.wrap,hk,Bool.false_and,Bool.false_eq_true,if_false]
  exact Int.emod_eq_of_lt h h2
theorem wrapN {k:IntKind} {z:Int} {K:AV→Prop} (n:Nat) (hk:k.signed=false) (hz:z=n) (h:n<2 ^ k.bits) (h2:K (.int k n)):ARy k z K:=by
  subst hz
  refine ZH (AJ9 hk (by omega) ?_) h2
  exact_mod_cast h
theorem bitsLen_div {n:Nat} (k:Nat) (h:2 ^ k≤n):bitsLen (n / 2 ^ k)+k=bitsLen n:=by
  have h0:k<bitsLen n:=by
    rcases Nat.lt_or_ge k (bitsLen n)with h1|h1
    · exact h1
    · have:=(bitsLen_le_iff n k).1 h1;omega
  have e1:bitsLen (n / 2 ^ k)≤bitsLen n-k:=by
    rw[bitsLen_le_iff,Nat.div_lt_iff_lt_mul (Nat.two_pow_pos k),←Nat.pow_add,Nat.sub_add_cancel (by omega)]
    exact lt_two_pow_bitsLen n
  have e2:bitsLen n≤bitsLen (n / 2 ^ k)+k:=by
    rw[bitsLen_le_iff,Nat.pow_add,←Nat.div_lt_iff_lt_mul (Nat.two_pow_pos k)]
    exact lt_two_pow_bitsLen _
  omega
def lenTab:List UInt8:=[0,1,2,2,3,3,3,3,4,4,4,4,4,4,4,4]++List.replicate 16 5++List.replicate 32 6++List.replicate 64 7++List.replicate 128 8
theorem lenTab_all:(List.range 256).all (fun n=>nth lenTab n==some (UInt8.ofNat (bitsLen n))&&Nat.ble (bitsLen n) 8)=true:=by decide +kernel
theorem lenTab_at {n:Nat} (h:n<256):nth lenTab n=some (UInt8.ofNat (bitsLen n))∧bitsLen n≤8:=by
  have:=List.all_eq_true.1 lenTab_all n (List.mem_range.2 h)
  rw[Bool.and_eq_true]at this
  exact⟨by simpa using this.1,Nat.le_of_ble_eq_true this.2⟩
theorem shr32 (n:Nat):((n:Int)).fdiv (2 ^ (min (Int.toNat 32) IntKind.u64.bits))=((n / 2 ^ 32:Nat):Int):=by
  rw[show (2:Int) ^ (min (Int.toNat 32) IntKind.u64.bits)=4294967296 by rfl,Int.fdiv_eq_ediv_of_nonneg _ (by omega)]
  rfl
theorem shr16 (n:Nat):((n:Int)).fdiv (2 ^ (min (Int.toNat 16) IntKind.u64.bits))=((n / 2 ^ 16:Nat):Int):=by
  rw[show (2:Int) ^ (min (Int.toNat 16) IntKind.u64.bits)=65536 by rfl,Int.fdiv_eq_ediv_of_nonneg _ (by omega)]
  rfl
theorem shr8 (n:Nat):((n:Int)).fdiv (2 ^ (min (Int.toNat 8) IntKind.u64.bits))=((n / 2 ^ 8:Nat):Int):=by
  rw[show (2:Int) ^ (min (Int.toNat 8) IntKind.u64.bits)=256 by rfl,Int.fdiv_eq_ediv_of_nonneg _ (by omega)]
  rfl
theorem u8_nat {m:Nat} (h:m≤8):(UInt8.ofNat m).toNat=m:=by
  rw[UInt8.toNat_ofNat']
  exact Nat.mod_eq_of_lt (by omega)
set_option maxRecDepth 100000 in
theorem lenK {n:Nat} {K:UInt8→Prop} (hn:n<256) (h:bitsLen n≤8→K (UInt8.ofNat (bitsLen n))):Iw lenTab (Int.toNat (n:Int)) K:=
  LX (lenTab_at hn).1 (h (lenTab_at hn).2)
set_option maxRecDepth 100000 in
theorem len64 {n:Nat} (h:n<2^64):D8 (Dx tab) 185 [.int .u64 n] (· =.int .i64 (bitsLen n)):=by
  refine Lu rfl rfl ?_
  (conv=>whnf);repeat' (first|(apply KJ;(· first|exact shr32 _|exact shr16 _|exact shr8 _);conv=>whnf)|(refine wrapN _ rfl rfl (by show _<256;omega) ?_;conv=>whnf)|(refine lenK (by omega) (fun hb=>?_);rw[u8_nat hb];conv=>whnf)|((with_reducible first|apply kN|apply kW|apply kX|apply kG|apply kQ);(· exact sd);conv=>whnf)|(refine DW.mk ?_ ?_<;>intro hc<;>(try rw[List.length_nil]at hc)<;>first|(exfalso;omega)|(exact absurd rfl hc)|conv=>whnf)|(refine CB ?_ ?_<;>intro hc<;>conv=>whnf))
  all_goals
    show AV.int _ _=_
    congr 1
    first
      |(rw [← bitsLen_div 32 (n:=n) (by omega),←bitsLen_div 16 (n:=n / 2 ^ 32) (by omega),←bitsLen_div 8 (n:=n / 2 ^ 32 / 2 ^ 16) (by omega)];omega)
      |(rw [← bitsLen_div 32 (n:=n) (by omega),←bitsLen_div 16 (n:=n / 2 ^ 32) (by omega)];omega)
      |(rw [← bitsLen_div 32 (n:=n) (by omega),←bitsLen_div 8 (n:=n / 2 ^ 32) (by omega)];omega)
      |(rw [← bitsLen_div 32 (n:=n) (by omega)];omega)
      |(rw [← bitsLen_div 16 (n:=n) (by omega),←bitsLen_div 8 (n:=n / 2 ^ 16) (by omega)];omega)
      |(rw [← bitsLen_div 16 (n:=n) (by omega)];omega)
      |(rw [← bitsLen_div 8 (n:=n) (by omega)];omega)
      |omega
theorem Azn {n:Nat} (h:n<2^63):D8 (Dx tab) 102 [.int .u64 n] (· =.int .i64 (bitsLen n)):=by
  refine Lu rfl rfl ?_
  (conv=>whnf);repeat' (first|(refine BM (len64 (n:=n) (by omega)) ?_;rintro _ rfl;conv=>whnf)|((with_reducible first|apply kN|apply kW|apply kX|apply kG|apply kQ);(· exact sd);conv=>whnf)|(refine DW.mk ?_ ?_<;>intro hc<;>(try rw[List.length_nil]at hc)<;>first|(exfalso;omega)|(exact absurd rfl hc)|conv=>whnf)|(refine CB ?_ ?_<;>intro hc<;>conv=>whnf))
  rfl
theorem AyG {n:Nat} (h:n<2^62) (h0:0<n):D8 (Dx tab) 241 [.int .i64 n] (fun v=>∃M:Nat,v=.int .u64 M∧n<M∧M≤2*n):=by
  have h1:=lt_two_pow_bitsLen n
  have h2:=two_pow_bitsLen_le h0
  have h3:bitsLen n≤62:=(bitsLen_le_iff n 62).2 h
  refine Lu rfl rfl ?_
  (conv=>whnf);repeat' (first|(refine wrapN n rfl rfl (by show n<2^64;omega) ?_;conv=>whnf)|(refine BM (Azn (n:=n) (by omega)) ?_;rintro _ rfl;conv=>whnf)|(refine wrapN (2 ^ bitsLen n) rfl ?_ (by show _<2^64;omega) ?_;(· rw[Int.one_mul,Int.toNat_natCast,Nat.min_eq_left (by show _≤64;omega)];simp);conv=>whnf)|((with_reducible first|apply kN|apply kW|apply kX|apply kG|apply kQ);(· exact sd);conv=>whnf)|(refine DW.mk ?_ ?_<;>intro hc<;>(try rw[List.length_nil]at hc)<;>first|(exfalso;omega)|(exact absurd rfl hc)|conv=>whnf)|(refine CB ?_ ?_<;>intro hc<;>conv=>whnf))
  exact⟨_,rfl,h1,h2⟩
section
variable {α:Type} [Inhabited α] {lt:α→α→Bool} {a b i j:Nat} {d:Array α}
theorem Azx (h:i<b) (h2:lt d[i]! d[i-1]! =false):scanSorted lt d b i=scanSorted lt d b (i+1):=by
  rw[scanSorted,if_pos (by simp[h,h2])]
theorem AkW (h:i<b→lt d[i]! d[i-1]! =true):scanSorted lt d b i=i:=by
  rw[scanSorted,if_neg]
  simp only[Bool.and_eq_true,decide_eq_true_eq,not_and]
  intro h1 h2
  rw[h h1]at h2;cases h2
theorem AKv (h:lt d[j+1]! d[j]! =true):shiftDown lt (j+1) d=shiftDown lt j (swp d (j+1) j):=by
  rw[shiftDown,if_neg (by simp[h])]
theorem Azz (h:lt d[j+1]! d[j]! =false):shiftDown lt (j+1) d=d:=by
  rw[shiftDown,if_pos (by simp[h])]
theorem AKw (h0:j<b) (h:lt d[j]! d[j-1]! =true):shiftUp lt b j d=shiftUp lt b (j+1) (swp d j (j-1)):=by
  rw[shiftUp,if_pos h0,if_neg (by simp[h])]
theorem Aps (h:j<b→lt d[j]! d[j-1]! =false):shiftUp lt b j d=d:=by
  rw[shiftUp]
  split
  · rename_i h0
    rw[if_pos (by simp[h h0])]
  · rfl
@[simp] theorem shD_sz:∀{j:Nat} {d:Array α},(shiftDown lt j d).size=d.size
  |0,d=>rfl
  | j+1,d=>by
    rw[shiftDown]
    split
    · rfl
    · rw[shD_sz,swp_sz]
theorem shU_sz':∀(n j:Nat) (d:Array α),b-j≤n→(shiftUp lt b j d).size=d.size
  |0,j,d,h=>by rw[shiftUp,if_neg (by omega)]
  | n +1,j,d,h=>by
    rw[shiftUp]
    split
    · split
      · rfl
      · rw[shU_sz' n _ _ (by omega),swp_sz]
    · rfl
@[simp] theorem shU_sz:(shiftUp lt b j d).size=d.size:=shU_sz' (b-j) j d (Nat.le_refl _)
@[simp] theorem fixD_sz:(fixDown lt a i d).size=d.size:=by unfold fixDown;split<;>simp
@[simp] theorem fixU_sz:(fixUp lt b i d).size=d.size:=by unfold fixUp;split<;>simp
variable {p:α→Bool}
theorem Apt (h:i≤j) (h2:p d[i]! =true):scanUp p d j i=scanUp p d j (i+1):=by
  rw[scanUp,if_pos (by simp[h,h2])]
theorem Ye (h:i≤j→p d[i]! =false):scanUp p d j i=i:=by
  rw[scanUp,if_neg]
  simp only[Bool.and_eq_true,decide_eq_true_eq,not_and]
  intro h1 h2
  rw[h h1]at h2;cases h2
theorem Apu (h:i≤j+1) (h2:p d[j+1]! =true):scanDown p d i (j+1)=scanDown p d i j:=by
  rw[scanDown,if_pos (by simp[h,h2])]
theorem Yf (h:i≤j→p d[j]! =false):scanDown p d i j=j:=by
  cases j with
  |zero=>rfl
  | succ j=>
    rw[scanDown,if_neg]
    simp only[Bool.and_eq_true,decide_eq_true_eq,not_and]
    intro h1 h2
    rw[h h1]at h2;cases h2
end
theorem YL {AP:Nat→Option AFn} {a b:Dw} {env:Env} {s:Sto} {Q:Je→Env→Sto→Prop} (h:vC AP a env s (AkT (fun env s=>vC AP b env s Q) Q)):vC AP (.seq a b) env s Q:=h
theorem ABn {α:Type} [Inhabited α] {L:List α} {D:Array α} {len:Nat} (hl:L.length=len) (h:PermIn 0 len L.toArray D):D.toList.Perm L:=by
  obtain⟨h1,_,h3⟩:=h
  have e1:D.size=len:=by rw[h1];simpa using hl
  have e2:(D.extract 0 len).toList=D.toList:=by rw[← e1];simp
  have e3:(L.toArray.extract 0 len).toList=L:=by rw[← hl];simp
  rw[e2,e3]at h3
  exact h3
theorem AyH {α:Type} [Inhabited α] {lt:α→α→Bool} {D:Array α} {len:Nat} (hl:D.size=len) (h:SortedIn lt 0 len D):D.toList.Pairwise (fun x y=>lt y x=false):=by
  rw[List.pairwise_iff_getElem]
  intro i j hi hj hij
  have:=h i j (Nat.zero_le _) hij (by simpa[hl]using hj)
  simp only[Array.length_toList]at hi hj
  rw[getElem!_pos D j hj,getElem!_pos D i hi]at this
  simpa using this
end
section
open Go.Sort
def NH (a b:Int):Int:=if a=0 then b else a
def cS (x y:List UInt8):Int:=if Op.bytesLess x y=true then -1 else if Op.bytesLess y x=true then 1 else 0
structure PC {α:Type} (c:α→α→Int):Prop where
  anti:∀x y,c y x=-c x y
  trans:∀x y z,c x y≤0→c y z≤0→c x z≤0
theorem PC.lex {α:Type} {c d:α→α→Int} (hc:PC c) (hd:PC d):PC fun x y=>NH (c x y) (d x y) where
  anti x y:=by
    have h1:=hc.anti x y
    have h2:=hd.anti x y
    unfold NH;split<;>split<;>omega
  trans x y z h1 h2:=by
    have a1:=hc.trans x y z
    have a2:=hc.trans y z x
    have a3:=hc.trans z x y
    have b1:=hc.anti x y
    have b2:=hc.anti y z
    have b3:=hc.anti x z
    have d1:=hd.trans x y z
    unfold NH at*
    split at h1<;>split at h2<;>split<;>omega
theorem PC.on {α β:Type} {c:β→β→Int} (h:PC c) (p:α→β):PC fun x y=>c (p x) (p y):=⟨fun x y=>h.anti _ _,fun x y z=>h.trans _ _ _⟩
theorem Auz : PC Qr where
  anti x y := by unfold Qr;repeat' split
                 all_goals omega
  trans x y z := by unfold Qr;repeat' split
                    all_goals omega
theorem AT6:∀(x y:List UInt8),Op.bytesLess x y=decide (x<y)
  |[],[]=>by simp[Op.bytesLess]
  |_::_,[]=>by simp[Op.bytesLess]
  |[],_::_=>by simp[Op.bytesLess]
  | a::x,b::y=>by
    rw[Op.bytesLess,AT6 x y]
    simp only[List.cons_lt_cons_iff]
    by_cases h1:a<b<;>by_cases h2:a=b<;>by_cases h3:x<y<;>simp[h1,h2,h3]
theorem bl_eq (x y:List UInt8):Op.bytesLess x y=ltStr x y:=AT6 x y
theorem bl_tot {x y:List UInt8} (h1:Op.bytesLess x y=false) (h2:Op.bytesLess y x=false):x=y:=by
  rw[bl_eq]at h1 h2
  simp only[ltStr,decide_eq_false_iff_not]at h1 h2
  exact List.le_antisymm (List.not_lt.1 h2) (List.not_lt.1 h1)
theorem AKL:PC cS where
  anti x y:=by
    have h:Op.bytesLess x y=true→Op.bytesLess y x=true→False:=fun a b=>by
      rw[bl_eq]at a b
      have:=swo_ltStr.trans x y x a b
      rw[swo_ltStr.irrefl]at this;cases this
    unfold cS
    by_cases a:Op.bytesLess x y=true<;>by_cases b:Op.bytesLess y x=true<;>simp[a,b]
    exact h a b
  trans x y z h1 h2:=by
    have n1:Op.bytesLess y x=false:=by
      unfold cS at h1
      split at h1
      · rename_i a
        cases hb:Op.bytesLess y x with
        |false=>rfl
        | true=>
          rw[bl_eq]at a hb
          have:=swo_ltStr.trans x y x a hb
          rw[swo_ltStr.irrefl]at this;cases this
      · split at h1
        · omega
        · rename_i b;simpa using b
    have n2:Op.bytesLess z y=false:=by
      unfold cS at h2
      split at h2
      · rename_i a
        cases hb:Op.bytesLess z y with
        |false=>rfl
        | true=>
          rw[bl_eq]at a hb
          have:=swo_ltStr.trans y z y a hb
          rw[swo_ltStr.irrefl]at this;cases this
      · split at h2
        · omega
        · rename_i b;simpa using b
    have n3:Op.bytesLess z x=false:=by rw[bl_eq]at *;exact swo_ltStr.ntrans z y x n2 n1
    unfold cS
    split
    · omega
    · rw[n3];simp
theorem ABX {x y:List UInt8}:cS x y=0↔x=y:=by
  constructor
  · intro h
    unfold cS at h
    split at h
    · omega
    · split at h
      · omega
      · rename_i a b;exact bl_tot (by simpa using a) (by simpa using b)
  · rintro rfl
    have:=AKL.anti x x
    omega
theorem APb {a b:Int}:NH a b=0↔a=0∧b=0:=by unfold NH;split<;>omega
theorem AWE {x:List UInt8}:D8 (Dx tab) 194 [.str x] (· =.bool false):=by
  refine Lu rfl rfl ?_
  (conv=>whnf);repeat' (first  |((with_reducible first|apply kN|apply kW|apply kX|apply kG|apply kQ);(· exact sd);conv=>whnf)|(refine DW.mk ?_ ?_<;>intro hc<;>(try rw[List.length_nil]at hc)<;>first|(exfalso;omega)|(exact absurd rfl hc)|conv=>whnf)|(refine CB ?_ ?_<;>intro hc<;>conv=>whnf))
  all_goals first | rfl | (exfalso; simp_all) | (trace_state; fail "nanSR")
theorem AWL {x y:List UInt8} (h:Op.bytesLess x y=true):AV.int .i64 (-1)=.int .i64 (cS x y):=by unfold cS;rw[if_pos h]
theorem AWM {x y:List UInt8} (h:Op.bytesLess x y=false) (h2:(Op.bytesLess x y||x==y)=true):AV.int .i64 0=.int .i64 (cS x y):=by
  rw[h,Bool.false_or,beq_iff_eq]at h2
  rw[ABX.2 h2]
theorem AWN {x y:List UInt8} (h2:(Op.bytesLess x y||x==y)=false):AV.int .i64 1=.int .i64 (cS x y):=by
  rw[Bool.or_eq_false_iff,beq_eq_false_iff_ne]at h2
  have h3:Op.bytesLess y x=true:=by
    cases h:Op.bytesLess y x with
    |true=>rfl
    |false=>exact absurd (bl_tot h2.1 h) h2.2
  unfold cS;rw[h2.1,h3];rfl
theorem AwA {x y:List UInt8}:D8 (Dx tab) 113 [.str x,.str y] (· =.int .i64 (cS x y)):=by
  refine Lu rfl rfl ?_
  (conv=>whnf);repeat' (first|(refine BM AWE ?_;rintro _ rfl;conv=>whnf)|((with_reducible first|apply kN|apply kW|apply kX|apply kG|apply kQ);(· exact sd);conv=>whnf)|(refine DW.mk ?_ ?_<;>intro hc<;>(try rw[List.length_nil]at hc)<;>first|(exfalso;omega)|(exact absurd rfl hc)|conv=>whnf)|(refine CB ?_ ?_<;>intro hc<;>conv=>whnf))
  all_goals first | exact AWL hc | exact AWM (by assumption) hc | exact AWN hc | (trace_state; fail "compareS")
def fnz:List Int→Int
  |[]=>0
  |a::l=>NH a (fnz l)
theorem fnz_drop {l:List Int} {i:Nat} (h:i<l.length):fnz (l.drop i)=NH l[i] (fnz (l.drop (i+1))):=by
  rw[List.drop_eq_getElem_cons h];rfl
theorem orV {l:List Int} {nn:Bool} (hl:l.length<2^62):D8 (Dx tab) 112 [.sl nn (vs (.int .i64) l)] (· =.int .i64 (fnz l)):=by
  refine Lu rfl rfl ?_
  (conv=>whnf);repeat' (first  |((with_reducible first|apply kN|apply kW|apply kX|apply kG|apply kQ);(· exact sd);conv=>whnf)|(refine DW.mk ?_ ?_<;>intro hc<;>(try rw[List.length_nil]at hc)<;>first|(exfalso;omega)|(exact absurd rfl hc)|conv=>whnf)|(refine CB ?_ ?_<;>intro hc<;>conv=>whnf))
  refine DK (fun m env s=>∃i:Nat,m=l.length-i∧fnz (l.drop i)=fnz l∧env=[(3,.int .i64 0),(6,.sl nn (vs (.int .i64) l)),(7,.int .i64 l.length),(8,.int .i64 i)]∧s=⟨[],0⟩) ?_ _ _ _ ⟨0,rfl,by simp,by first|rfl|(rw [← lV (f:=.int .i64) l];rfl),rfl⟩
  rintro _ _ _ ⟨i,rfl,hx,rfl,rfl⟩
  refine⟨rfl,?_⟩
  by_cases hlt:i<l.length
  · rw[fnz_drop hlt]at hx
    unfold NH at hx
    (conv=>whnf);repeat' (first  |((with_reducible first|apply kN|apply kW|apply kX|apply kG|apply kQ);(· exact sd);conv=>whnf)|(refine DW.mk ?_ ?_<;>intro hc<;>(try rw[List.length_nil]at hc)<;>first|(exfalso;omega)|(exact absurd rfl hc)|conv=>whnf)|(refine CB ?_ ?_<;>intro hc<;>conv=>whnf))
    all_goals first
      |(rw [if_pos (by assumption)]at hx;exact again.mk ⟨_,by omega,i+1,rfl,hx,rfl,rfl⟩)
      |(rw [if_neg (by assumption)]at hx;rw[← hx];rfl)
      | (trace_state; fail "orV")
  · rw[List.drop_eq_nil_of_le (by omega)]at hx
    (conv=>whnf);repeat' (first  |((with_reducible first|apply kN|apply kW|apply kX|apply kG|apply kQ);(· exact sd);conv=>whnf)|(refine DW.mk ?_ ?_<;>intro hc<;>(try rw[List.length_nil]at hc)<;>first|(exfalso;omega)|(exact absurd rfl hc)|conv=>whnf)|(refine CB ?_ ?_<;>intro hc<;>conv=>whnf))
    all_goals first | (rw [← hx]; rfl) | (trace_state; fail "orV2")
theorem bcaseD {p t e:Prop} [Decidable p] (h1:p→t) (h2:¬p→e):bcase (decide p) t e:=
  CB (fun h=>h1 (of_decide_eq_true h)) (fun h=>h2 (of_decide_eq_false h))
theorem bcaseN {p t e:Prop} [Decidable p] (h1:p→e) (h2:¬p→t):bcase (decide (¬ p)) t e:=
  CB (fun h=>h2 (of_decide_eq_true h)) (fun h=>h1 (Decidable.not_not.1 (of_decide_eq_false h)))
theorem PC.swo {α:Type} {c:α→α→Int} (h:PC c):SWO fun x y=>decide (c x y<0) where
  irrefl x:=decide_eq_false (by have:=h.anti x x;omega)
  trans x y z h1 h2:=decide_eq_true (by
    have a:=of_decide_eq_true h1
    have b:=of_decide_eq_true h2
    have h3:=h.trans x y z (by omega) (by omega)
    have h4:=h.trans z x y
    have h5:=h.anti x z
    have h6:=h.anti y z
    omega)
  ntrans x y z h1 h2:=decide_eq_false (by
    have a:=of_decide_eq_false h1
    have b:=of_decide_eq_false h2
    have h3:=h.trans z y x
    have h4:=h.anti x y
    have h5:=h.anti y z
    have h6:=h.anti x z
    omega)
theorem AK6 {α:Type} {lt:α→α→Bool} (hS:SWO lt) (htot:∀x y,lt x y=false→lt y x=false→x=y) {W:List α} {r:α} {i:Nat} (hW:W.Pairwise (fun x y=>lt x y=true)) (h1:∀x∈W.take i,lt x r=true) (h2:∀h:i<W.length,lt W[i] r=false):
    (W.take i++r::(W.drop i).filter (lt r)).Pairwise (fun x y=>lt x y=true)∧∀x,x∈W.take i++r::(W.drop i).filter (lt r)↔x∈W∨x=r:=by
  have h0:=List.take_append_drop i W
  rw[← h0]at hW
  rw[List.pairwise_append]at hW
  obtain⟨a,b,c⟩:=hW
  constructor
  · rw[List.pairwise_append]
    refine⟨a,?_,fun x hx y hy=>?_⟩
    · rw[List.pairwise_cons]
      exact⟨fun y hy=>by simpa using(List.mem_filter.1 hy).2,b.filter _⟩
    · rcases List.mem_cons.1 hy with rfl|hy
      · exact h1 x hx
      · exact c x hx y (List.mem_filter.1 hy).1
  · have hge:∀x∈W.drop i,lt x r=false:=by
      intro x hx
      have hi:i<W.length:=by
        rcases Nat.lt_or_ge i W.length with h|h
        · exact h
        · rw[List.drop_eq_nil_of_le h]at hx;simp at hx
      rw[List.drop_eq_getElem_cons hi]at hx b
      rcases List.mem_cons.1 hx with rfl|hx
      · exact h2 hi
      · cases hh:lt x r with
        |false=>rfl
        | true=>
          have h3:=(List.pairwise_cons.1 b).1 x hx
          have h4:=hS.trans _ _ _ h3 hh
          rw[h2 hi]at h4;cases h4
    intro x
    rw[List.mem_append,List.mem_cons,List.mem_filter]
    constructor
    · rintro(h|h|h)
      · exact .inl (List.mem_of_mem_take h)
      · exact .inr h
      · exact .inl (List.mem_of_mem_drop h.1)
    · rintro(h|h)
      · rw[← h0,List.mem_append]at h
        rcases h with h|h
        · exact .inl h
        · cases hh:lt r x with
          |true=>exact .inr (.inr ⟨h,rfl⟩)
          |false=>exact .inr (.inl (htot _ _ (hge x h) hh))
      · exact .inr (.inl h)
theorem LQ {α:Type} {p:α→Bool} {l:List α} {k:Nat} (h:k<l.length):(l.take (k+1)).filter p=(l.take k).filter p++if p l[k]=true then[l[k]]else[]:=by
  rw[List.take_succ_eq_append_getElem h,List.filter_append]
  congr 1
  simp only[List.filter_cons,List.filter_nil]
end
structure GT where
  label:List UInt8
  key:List UInt8
  v:GV
  id:Int
def GT.av (e:GT):AV:=.agg [.str e.label,.str e.key,.int .i64 e.v.k,.int .i64 e.v.n,.int .i64 e.v.d,.str e.v.s,.sl e.v.nn e.v.l,.int .i64 e.id]
def GT.ok (e:GT):Prop:=Ln e.label∧Ln e.key∧e.v.ok∧I64 e.id
theorem Ayb (x:GT):x.av.cells.length=8:=rfl
theorem Ayc:Tryz.prog.cellsOf 83=8:=by kernel_rfl
theorem len8 {l:List AV} (h:l.length=8):∃a b c d e f g i,l=[a,b,c,d,e,f,g,i]:=by
  rcases l with _|⟨a,_|⟨b,_|⟨c,_|⟨d,_|⟨e,_|⟨f,_|⟨g,_|⟨i,_|⟨j,r⟩⟩⟩⟩⟩⟩⟩⟩⟩<;>simp at h
  exact⟨a,b,c,d,e,f,g,i,rfl⟩
theorem AwP {d:Nat} {cs:List AV} (h:AG5 Tryz.prog d 83 cs):∃v:GT,cs=[.str v.label,.str v.key,.int .i64 v.v.k,.int .i64 v.v.n,.int .i64 v.v.d,.str v.v.s,.sl v.v.nn v.v.l,.int .i64 v.id]∧v.ok:=by
  obtain⟨d',rfl,g1,g2⟩:=AdY Tryz.underlying83 h
  rw[Ayc]at g1
  obtain⟨a,b,c,e,f,g,i,j,rfl⟩:=len8 g1
  clear g1
  simp only[List.forall_mem_cons]at g2
  obtain⟨f1,f2,f3,f4,_⟩:=g2
  simp only[Apz,AuB,Az5,List.drop_zero,List.drop_succ_cons,List.take_succ_cons,List.take_zero]at f1 f2 f3 f4
  obtain⟨s,e1,h1⟩:=Ai1 f1
  obtain⟨t,e2,h2⟩:=Ai1 f2
  obtain⟨v,e3,h3⟩:=Aom f3
  obtain⟨n,e4,h4⟩:=Ai2 f4
  cases e1;cases e2;cases e3;cases e4
  exact⟨⟨s,t,v,n⟩,rfl,h1,h2,h3,h4⟩
theorem Axq {d:Nat} {a:AV} (h:like Tryz.prog d 83 a):∃v:GT,a=v.av∧v.ok:=by
  obtain⟨cs,rfl,h0⟩:=AeQ Tryz.underlying83 h
  obtain⟨v,rfl,h1⟩:=AwP h0
  exact⟨v,rfl,h1⟩
end AI
end Go.Proofs.YtnbibfalljlmfaaGreatDoor
