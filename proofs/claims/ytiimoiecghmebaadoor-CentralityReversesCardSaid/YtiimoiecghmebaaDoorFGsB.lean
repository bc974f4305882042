/- The reference's copy of a graph, in the store. -/
import Derived.Test.YtiimoiecghmebaaDoorFMal
import Derived.Test.YtiimoiecghmebaaDoorFMaf
import Derived.Test.YtiimoiecghmebaaDoorFMai
set_option linter.unusedVariables false
namespace Go.Proofs.YtiimoiecghmebaaDoor
namespace AI
structure KN where
 n:GN
 o:Nat
 g:Nat
def KN.av (e:KN):AV:=.agg [.int .i64 e.n.id,.own e.o e.g 0 e.n.labels.length,.sl e.n.pn (vs GP.av e.n.props)]
theorem Afa (e:KN):e.av.cells.length=3:=rfl
def KN.Ok (lo:Nat) (σ:List Obj) (e:KN):Prop:=nth σ e.o=some (.arr e.g 1 true true (vs .str e.n.labels))∧lo≤e.o∧e.n.ln=true∧(e.n.pn=false→e.n.props=[])
def CpN (m n:GN):Prop:=n.id=m.id∧n.labels=m.labels∧FW CpP m.props n.props
def CpE (e f:GE):Prop:=f.id=e.id∧f.fr=e.fr∧f.to=e.to∧f.ty=e.ty∧FW CpP e.props f.props∧(f.pn=false→f.props=[])
def QA (lo:Nat) (σ:List Obj) (v:AV) (K:List KN):Prop:=(K=[]∧v=.sl false [])∨(K≠[]∧∃o g,v=.own o g 0 K.length∧nth σ o=some (.arr g 3 true false (vs KN.av K))∧lo≤o∧∀e∈K,e.o≠o)
def Vu (lo:Nat) (σ:List Obj) (v:AV) (E:List GE):Prop:=(E=[]∧v=.sl false [])∨(E≠[]∧∃o g,v=.own o g 0 E.length∧nth σ o=some (.arr g 5 true true (vs GE.av E))∧lo≤o)
theorem AlG {σ l:List Obj} {K:List Obj→Prop} (h:∀σ',CB σ σ' []→(∀ j (hj:j<l.length),nth σ' (σ.length+j)=some l[j])→σ'.length=σ.length+l.length→K σ'):ZP σ l K:=
 (PN _ _ _).2 (h _ ⟨by simp,fun o ho _=>Jr ho⟩ (fun j hj=>by rw[Aj,List.getElem?_append_right (by omega),Nat.add_sub_cancel_left,List.getElem?_eq_getElem hj]) (by simp))
theorem Ai7 {α:Type} {f:α→AV} {es g:Nat} {cl:Bool} {l':List α} {ys:List AV} {bytes:Nat} {K:Nat→Bool→Bool→List AV→Prop} (he:ys=vs f l') (hf:∀x,(f x).cells.length=es) (hr:l'.length*bytes≤2 ^ 46) (h:K l'.length true cl (vs f l')):LG g g es es 0 true cl true [] ys bytes K:=by
 refine AjQ (l:=[]) (l':=l') (f:=f) he hf rfl (by simpa using hr) ?_
 simpa using h
theorem AlH {α:Type} {f:α→AV} {es g len:Nat} {cl c:Bool} {l l':List α} {ys:List AV} {bytes:Nat} {K:Nat→Bool→Bool→List AV→Prop} (he:ys=vs f l') (hf:∀x,(f x).cells.length=es) (hl:len=l.length) (hr:(l.length+l'.length)*bytes≤2 ^ 46) (h:K (l.length+l'.length) true (cl&&c) (vs f (l++l'))):LG g g es es len true cl c (vs f l) ys bytes K:=by
 subst hl he
 refine⟨⟨rfl,rfl,by simp,Rh hf l',by rw[lV];exact Kz hr⟩,?_⟩
 rw[lV,List.take_of_length_le (by simp),Bool.true_or]
 simpa[vs]using h
theorem Yd {α:Type} {f:α→AV} {σ:List Obj} {c o g es n:Nat} {nn cl:Bool} {l:List α} (h:nth σ o=some (.arr g es nn cl (vs f l))) (hn:n=l.length):elemsOf ⟨σ,c⟩ es (.own o g 0 n)=some (vs f l,cl):=by
 subst hn
 have hs:sub (vs f l) 0 l.length=vs f l:=uV
 simp[elemsOf,h,hs]
theorem Lu (n:Nat):Nat.blt n n=false:=by
 cases h:Nat.blt n n with
 |false=>rfl
 |true=>have:n<n:=Nat.blt_eq▸h;omega
theorem AfS {lo:Nat} {σ5 τ5:List Obj} {vN:AV} {KL:List KN} {F:List Nat} {e:KN} (FT:CB σ5 τ5 F) (hF:∀o∈F,o<lo∨vN.obj=[o]∨σ5.length≤o) (hNd:QA lo σ5 vN KL) (hOk:∀e∈KL,e.Ok lo σ5) (hnd:(KL.map KN.o).Nodup) (he:e.Ok lo τ5) (heo:σ5.length≤e.o):
 (∀ x∈KL++[e],x.Ok lo τ5)∧((KL++[e]).map KN.o).Nodup:=by
 have hv:∀o,vN.obj=[o]→∀x∈KL,x.o≠o:=fun o ho x hx=>by
  rcases hNd with⟨h1,h2⟩|⟨_,o',g',rfl,_,_,h⟩
  ·rw[h1]at hx;cases hx
  ·simp only[AV.obj,List.cons.injEq,and_true]at ho
   subst ho;exact h x hx
 have hlt:∀x∈KL,x.o<σ5.length:=fun x hx=>Bj (hOk x hx).1
 refine⟨fun x hx=>?_,?_⟩
 ·rcases List.mem_append.1 hx with hx|hx
  ·obtain⟨a,b,c⟩:=hOk x hx
   refine⟨FT.get a fun hm=>?_,b,c⟩
   have:=hlt x hx
   rcases hF _ hm with h|h|h
   ·omega
   ·exact hv _ h x hx rfl
   ·omega
  ·rw[List.mem_singleton.1 hx];exact he
 ·rw[List.map_append,List.nodup_append]
  refine⟨hnd,by simp,fun a ha b hb e'=>?_⟩
  obtain⟨x,hx,rfl⟩:=List.mem_map.1 ha
  simp only[List.map_cons,List.map_nil,List.mem_singleton]at hb
  have:=hlt x hx
  rw[hb]at e'
  omega
theorem QA.fr {lo:Nat} {σ τ:List Obj} {F:List Nat} {v:AV} {K:List KN} (h:QA lo σ v K) (f:CB σ τ F) (hF:∀o∈F,o<lo∨σ.length≤o):QA lo τ v K:=by
 rcases h with h|⟨h1,o,g,rfl,h2,h3,h4⟩
 ·exact .inl h
 ·exact .inr ⟨h1,o,g,rfl,f.get h2 fun hm=>by have:=hF _ hm;have:=Bj h2;omega,h3,h4⟩
theorem Vu.fr {lo:Nat} {σ τ:List Obj} {F:List Nat} {v:AV} {K:List GE} (h:Vu lo σ v K) (f:CB σ τ F) (hF:∀o∈F,o<lo∨σ.length≤o):Vu lo τ v K:=by
 rcases h with h|⟨h1,o,g,rfl,h2,h3⟩
 ·exact .inl h
 ·exact .inr ⟨h1,o,g,rfl,f.get h2 fun hm=>by have:=hF _ hm;have:=Bj h2;omega,h3⟩
theorem KN.Ok.fr {lo:Nat} {σ τ:List Obj} {F:List Nat} {e:KN} (h:e.Ok lo σ) (f:CB σ τ F) (hF:∀o∈F,o<lo∨σ.length≤o):e.Ok lo τ:=by
 obtain⟨a,b,c⟩:=h
 exact⟨f.get a fun hm=>by have:=hF _ hm;have:=Bj a;omega,b,c⟩
theorem QA.lt {lo:Nat} {σ:List Obj} {v:AV} {K:List KN} (h:QA lo σ v K):∀o,v.obj=[o]→o<σ.length:=by
 intro o ho
 rcases h with⟨_,rfl⟩|⟨h1,o',g,rfl,h2,h3,h4⟩
 ·cases ho
 ·simp only[AV.obj,List.cons.injEq,and_true]at ho
  subst ho;exact Bj h2
structure AlI (g:GG) (lo le:Nat) (σ σ':List Obj) (vN vE:AV) (KL:List KN) (EL:List GE):Prop where
 frm:CB σ σ' []
 glo:σ.length≤lo
 gle:lo≤le
 n:QA lo σ' vN KL
 e:Vu le σ' vE EL
 ok:∀e∈KL,e.Ok lo σ'
 nd:(KL.map KN.o).Nodup
 olt:∀e∈KL,e.o<le
 nlt:∀o,vN.obj=[o]→o<le
 cn:FW CpN g.nodes (KL.map KN.n)
 ce:FW CpE g.edges EL
set_option maxHeartbeats 16000000 in
theorem AhZ {g:GG} (hg:g.ok) (hf:Zy g) {σ:List Obj} {ct:Nat} {K:AL→Ag→Prop} (hK:∀lo le σ' c vN vE KL EL,AlI g lo le σ σ' vN vE KL EL→K (.ok (.agg [vN,vE,.int .i64 g.BR,.int .i64 g.CJ])) ⟨σ',c⟩):
 DC (Ad tab) 17 [g.av] ⟨σ,ct⟩ K:=by
 obtain⟨q1,q2,q3,q4⟩:=hf
 refine LX rfl rfl ?_
 show vC _ _ [(0,.agg [.sl g.nn (vs GN.av g.nodes),.sl g.en (vs GE.av g.edges),.int .i64 g.BR,.int .i64 g.CJ])] _ _
 (conv=>whnf);repeat' (first|(refine EW fun σ3 f3 h3 l3=>?_;have h13:=f3.get h12 (by simp);have h23:=f3.get h2 (by simp);conv=>whnf)|(refine EW fun σ2 f2 h2 l2=>?_;have h12:=f2.get h1 (by simp);conv=>whnf)|(refine EW fun σ1 f1 h1 l1=>?_;conv=>whnf)|(rw [h13];conv=>whnf)|(rw [h12];conv=>whnf)|(rw [h3];conv=>whnf)|(refine kA ?_;conv=>whnf)|(refine Br.mk (fun hc=>?_) fun hc=>?_<;>first|exact hc.elim|conv=>whnf)|(refine kB ?_))
 replace l1:σ1.length=σ.length+1:=l1
 replace l2:σ2.length=σ1.length+1:=l2
 replace l3:σ3.length=σ2.length+1:=l3
 refine BL h3 fun σ4 f4 h4 l4=>?_
 have ZY:nth σ4 σ.length=some (.arr ct 4 true true [g.av]):=f4.get h13 (by intro h;have:=List.mem_singleton.1 h;dsimp only at this;omega)
 have h24:nth σ4 σ1.length=some (.arr (ct+1) 4 true true [.agg [.sl false [],.sl false [],.int .i64 0,.int .i64 0]]):=f4.get h23 (by intro h;have:=List.mem_singleton.1 h;dsimp only at this;omega)
 replace h4:nth σ4 σ2.length=some (.arr (ct+1+1) 4 true true [.agg [.sl false [],.sl false [],.int .i64 g.BR,.int .i64 g.CJ]]):=h4
 replace l4:σ4.length=σ3.length:=l4
 replace f4:CB σ3 σ4 [σ2.length]:=f4
 have F4:CB σ σ4 []:=(((f1.trans f2).trans f3).trans f4).mono (by intro o ho;simp only[List.append_nil,List.nil_append,List.mem_singleton]at ho;rw[ho];exact .inr (by show σ.length≤σ2.length;omega))
 clear f1 f2 f3 f4 h1 h2 h3 h12 h13 h23
 (conv=>whnf);repeat' (first  |(refine kA ?_;conv=>whnf)|(refine Br.mk (fun hc=>?_) fun hc=>?_<;>first|exact hc.elim|conv=>whnf)|(refine kB ?_))
 refine Au (fun m env s=>∃(i c gb:Nat) (cl:Bool) (σ5:List Obj) (vN:AV) (KL:List KN),m=g.nodes.length-i∧i≤g.nodes.length∧KL.length=i∧CB σ σ5 []∧σ2.length<σ5.length∧nth σ5 σ.length=some (.arr ct 4 true true [g.av])∧nth σ5 σ1.length=some (.arr (ct+1) 4 true true [.agg [.sl false [],.sl false [],.int .i64 0,.int .i64 0]])∧nth σ5 σ2.length=some (.arr (ct+1+1) 4 true cl [.agg [vN,.sl false [],.int .i64 g.BR,.int .i64 g.CJ]])∧QA (σ2.length+1) σ5 vN KL∧(∀ e∈KL,e.Ok (σ2.length+1) σ5)∧(KL.map KN.o).Nodup∧(∀ k (h:k<g.nodes.length) (h':k<KL.length),CpN g.nodes[k] KL[k].n)∧env=[(1,.ref σ.length ct 0 0),(2,.ref σ1.length (ct+1) 0 0),(3,.ref σ2.length (ct+1+1) 0 0),(4,.int .i64 i)]∧s=⟨σ5,c⟩) ?_ _ _ _ ⟨0,_,0,_,σ4,_,[],rfl,by omega,rfl,F4,by omega,ZY,h24,h4,.inl ⟨rfl,rfl⟩,by simp,by simp,(fun k h h'=>absurd h' (by simp)),rfl,rfl⟩
 clear F4 ZY h24 h4 l4 l3
 rintro _ _ _ ⟨i,c,gb,cl,σ5,vN,KL,rfl,hi,hKl,F5,h3l,h15,h25,h35,hNd,hOk,hnd,hCp,rfl,rfl⟩
 refine⟨rfl,?_⟩
 by_cases hlt:i<g.nodes.length
 ·have hnl:=(q3 _ (List.getElem_mem hlt)).1
  obtain⟨_,⟨Q,rfl,hQ⟩,Ua⟩:=(AbG (nl:=(g.nodes[i]).pn) (q3 _ (List.getElem_mem hlt)).2).det
  (conv=>whnf);repeat' (first|(refine EW fun σ6 f6 h6 l6=>?_;have h16:=f6.get h15 (by simp);have h36:=f6.get h35 (by simp);conv=>whnf)|(rw [h15];conv=>whnf)|(rw [h16];conv=>whnf)|(rw [h7];conv=>whnf)|(refine BL h7 fun σ8 f8 h8 l8=>?_;have h18:=f8.get h17 (by simp;omega);have h38:=f8.get h37 (by simp;omega);conv=>whnf)|(rw [h6];conv=>whnf)|(refine BL h6 fun σ7 f7 h7 l7=>?_;have h17:=f7.get h16 (by simp;omega);have h37:=f7.get h36 (by simp;omega);conv=>whnf)|(refine kA ?_;conv=>whnf)|(refine Br.mk (fun hc=>?_) fun hc=>?_<;>first|exact hc.elim|conv=>whnf)|(refine kB ?_))
  all_goals first|(exfalso;omega)|skip
  refine AlG fun σ9 f9 d9 l9=>?_
  replace f9:CB σ8 σ9 []:=f9
  replace l9:σ9.length=σ8.length+4:=l9
  replace d9:∀j,j<4→nth σ9 (σ8.length+j)=some .dead:=fun j hj=>by
   have:=d9 j hj
   rw[show (List.replicate (3+1) Obj.dead)[j]'hj=.dead from List.getElem_replicate ..]at this
   exact this
  have h39:=f9.get h38 (by simp)
  have d0:=d9 0 (by omega)
  have d1:=d9 1 (by omega)
  have d2:=d9 2 (by omega)
  have d3:=d9 3 (by omega)
  have l8':σ8.length=σ5.length+1:=by rw[l8,l7,l6]
  replace f6:CB σ5 σ6 []:=f6
  replace f7:CB σ6 σ7 [σ5.length]:=f7
  replace f8:CB σ7 σ8 [σ5.length]:=f8
  rcases hNd with⟨rfl,rfl⟩|⟨hK0,oN,gN,rfl,hoN,Agg,Agh⟩
  ·conv=>whnf
   (conv=>whnf);repeat' (first|(rw [h39];conv=>whnf)|(refine EW fun WI f10 h10 l10=>?_;conv=>whnf)|(refine kA ?_;conv=>whnf)|(refine Br.mk (fun hc=>?_) fun hc=>?_<;>first|exact hc.elim|conv=>whnf)|(refine kB ?_))
   replace h10:nth WI σ9.length=some (.arr (c+1+16) 1 true true []):=h10
   conv=>arg 2;change nth WI σ9.length;rw[h10]
   conv=>whnf
   conv=>arg 2;change Nat.blt σ9.length σ9.length;rw[Lu]
   conv=>whnf
   conv=>arg 2;change nth σ9 (σ8.length+0);rw[d0]
   conv=>whnf
   refine BL d0 fun Ud f11 h11 l11=>?_
   replace h11:nth Ud σ8.length=some (.arr (c+1+1+1+1+1) 1 true true []):=h11
   replace f11:CB σ9 Ud [σ8.length]:=f11
   clear f10 h10 l10 WI
   conv=>whnf
   (conv=>whnf);repeat' (first|((conv=>arg 2;change nth Ud σ8.length;rw[h11]);conv=>whnf)|(refine Ai7 (f:=.str) (l':=(g.nodes[i]).labels) rfl (fun _=>rfl) (by omega) ?_;conv=>whnf)|(refine BL h11 fun σ12 f12 h12 l12=>?_;conv=>whnf)|(refine kA ?_;conv=>whnf)|(refine Br.mk (fun hc=>?_) fun hc=>?_<;>first|exact hc.elim|conv=>whnf)|(refine kB ?_))
   obtain⟨g12,h12⟩:∃g12,nth σ12 σ8.length=some (.arr g12 1 true true (vs .str (g.nodes[i]).labels)):=⟨_,h12⟩
   replace l11:Ud.length=σ9.length:=l11
   have b1:Nat.blt σ8.length Ud.length=true:=Nat.blt_eq.mpr (by omega)
   conv=>arg 2;change nth σ12 σ8.length;rw[h12]
   conv=>whnf
   conv=>arg 2;change Nat.blt σ8.length Ud.length;rw[b1]
   conv=>whnf
   refine BL h11 fun QF f13 h13 l13=>?_
   replace h13:nth QF σ8.length=some (.arr (c+8) 1 true true (vs .str (g.nodes[i]).labels)):=h13
   replace f13:CB Ud QF [σ8.length]:=f13
   replace l13:QF.length=Ud.length:=l13
   have d2':nth QF (σ8.length+2)=some .dead:=f13.get (f11.get d2 (by simp)) (by simp)
   have d3':nth QF (σ8.length+3)=some .dead:=f13.get (f11.get d3 (by simp)) (by simp)
   clear b1
   conv=>whnf
   (conv=>whnf);repeat' (first|(refine Ac Ua ?_;rintro _ rfl;conv=>whnf)|(refine EW fun σ14 f14 ZY l14=>?_;conv=>whnf)|(refine kA ?_;conv=>whnf)|(refine Br.mk (fun hc=>?_) fun hc=>?_<;>first|exact hc.elim|conv=>whnf)|(refine kB ?_))
   obtain⟨e,he⟩:∃e:KN,e=⟨⟨(g.nodes[i]).id,true,(g.nodes[i]).labels,decide (0<(g.nodes[i]).props.length),Q⟩,σ8.length,c+8⟩:=⟨_,rfl⟩
   obtain⟨g14,ZY⟩:∃g14,nth σ14 QF.length=some (.arr g14 3 true false (vs KN.av [e])):=⟨_,by rw[he];exact ZY⟩
   conv=>arg 2;change nth σ14 QF.length;rw[ZY]
   conv=>whnf
   conv=>arg 2;change Nat.blt QF.length QF.length;rw[Lu]
   conv=>whnf
   conv=>arg 2;change nth QF (σ8.length+2);rw[d2']
   conv=>whnf
   refine BL d2' fun Wv f15 h15 l15=>?_
   replace h15:nth Wv (σ8.length+2)=some (.arr (c+13) 3 true false (vs KN.av [e])):=h15
   replace f15:CB QF Wv [σ8.length+2]:=f15
   replace l15:Wv.length=QF.length:=l15
   have Adz:=f15.get d3' (by simp)
   conv=>whnf
   (conv=>whnf);repeat' (first|(refine Bv (Yd h15 rfl) ?_;conv=>whnf)|(refine kA ?_;conv=>whnf)|(refine Br.mk (fun hc=>?_) fun hc=>?_<;>first|exact hc.elim|conv=>whnf)|(refine kB ?_))
   conv=>arg 2;change nth (Wv++[_]) Wv.length;rw[LZ]
   conv=>whnf
   conv=>arg 2;change Nat.blt Wv.length Wv.length;rw[Lu]
   conv=>whnf
   conv=>arg 2;change nth Wv (σ8.length+3);rw[Adz]
   conv=>whnf
   refine BL Adz fun σ17 f17 h17 l17=>?_
   replace h17:nth σ17 (σ8.length+3)=some (.arr (c+14) 3 true false (vs KN.av [e])):=h17
   replace f17:CB Wv σ17 [σ8.length+3]:=f17
   replace l17:σ17.length=Wv.length:=l17
   have Wx:=f17.get (f15.get (f13.get (f11.get h39 (by simp;omega)) (by simp;omega)) (by simp;omega)) (by simp;omega)
   conv=>whnf
   (conv=>whnf);repeat' (first|((conv=>arg 2;change nth σ17 σ2.length;rw[Wx]);conv=>whnf)|(refine BL Wx fun σ18 f18 h18 l18=>?_;conv=>whnf)|(refine kA ?_;conv=>whnf)|(refine Br.mk (fun hc=>?_) fun hc=>?_<;>first|exact hc.elim|conv=>whnf)|(refine kB ?_))
   obtain⟨cl',h18⟩:∃cl',nth σ18 σ2.length=some (.arr (ct+1+1) 4 true cl' [.agg [.own (σ8.length+3) (c+14) 0 1,.sl false [],.int .i64 g.BR,.int .i64 g.CJ]]):=⟨_,h18⟩
   conv=>arg 2;change nth σ18 σ2.length;rw[h18]
   conv=>whnf
   refine BL Wx fun σ19 f19 h19 l19=>?_
   clear h19 f19 l19 h18 f18 l18
   conv=>whnf
   have n0:Nat.beq σ2.length σ8.length=false:=by
        cases h:Nat.beq σ2.length σ8.length with
        |false=>rfl
        |true=>have:=Nat.eq_of_beq_eq_true h;omega
   have n1:Nat.beq σ2.length (σ8.length+1)=false:=by
        cases h:Nat.beq σ2.length (σ8.length+1)with
        |false=>rfl
        |true=>have:=Nat.eq_of_beq_eq_true h;omega
   have n2:Nat.beq σ2.length (σ8.length+2)=false:=by
        cases h:Nat.beq σ2.length (σ8.length+2)with
        |false=>rfl
        |true=>have:=Nat.eq_of_beq_eq_true h;omega
   refine Am ?_ ?_
   ·show((true&&(true&&(bif (bif Nat.beq σ2.length σ8.length then true else false)then false else true)))&&((true&&(true&&(bif (bif Nat.beq σ2.length (σ8.length+1)then true else(bif Nat.beq σ2.length σ8.length then true else false))then false else true)))&&((true&&(true&&(bif (bif Nat.beq σ2.length (σ8.length+2)then true else false)then false else true)))&&true)))=true
    rw[n0,n1,n2]
    rfl
   clear h11 f11 l11 h13 f13 l13 ZY f14 l14 h15 f15 l15 h17 f17 l17 d2' d3' Adz Wx n0 n1 n2
   conv=>whnf
   refine BL d0 fun τ1 t1 u1 v1=>?_
   replace u1:nth τ1 σ8.length=some (.arr (c+5) 1 true true []):=u1
   replace t1:CB σ9 τ1 [σ8.length]:=t1
   replace v1:τ1.length=σ9.length:=v1
   have e2:=t1.get d2 (by simp)
   have e3:=t1.get d3 (by simp)
   have eb:=t1.get h39 (by simp;omega)
   conv=>whnf
   refine BL u1 fun τ2 t2 u2 v2=>?_
   replace u2:nth τ2 σ8.length=some (.arr (c+8) 1 true true (vs .str (g.nodes[i]).labels)):=u2
   replace t2:CB τ1 τ2 [σ8.length]:=t2
   replace v2:τ2.length=τ1.length:=v2
   replace e2:=t2.get e2 (by simp)
   replace e3:=t2.get e3 (by simp)
   replace eb:=t2.get eb (by simp;omega)
   conv=>whnf
   refine BL e2 fun τ3 t3 u3 v3=>?_
   replace t3:CB τ2 τ3 [σ8.length+2]:=t3
   replace v3:τ3.length=τ2.length:=v3
   replace e3:=t3.get e3 (by simp)
   replace eb:=t3.get eb (by simp;omega)
   replace u2:=t3.get u2 (by simp)
   conv=>whnf
   refine BL e3 fun τ4 t4 u4 v4=>?_
   replace u4:nth τ4 (σ8.length+3)=some (.arr (c+14) 3 true false (vs KN.av [e])):=u4
   replace t4:CB τ3 τ4 [σ8.length+3]:=t4
   replace v4:τ4.length=τ3.length:=v4
   replace eb:=t4.get eb (by simp;omega)
   replace u2:=t4.get u2 (by simp)
   conv=>whnf
   refine BL eb fun τ5 t5 u5 v5=>?_
   obtain⟨cl2,u5⟩:∃cl2,nth τ5 σ2.length=some (.arr (ct+1+1) 4 true cl2 [.agg [.own (σ8.length+3) (c+14) 0 1,.sl false [],.int .i64 g.BR,.int .i64 g.CJ]]):=⟨_,u5⟩
   replace t5:CB τ4 τ5 [σ2.length]:=t5
   replace v5:τ5.length=τ4.length:=v5
   replace u2:=t5.get u2 (by simp;omega)
   replace u4:=t5.get u4 (by simp;omega)
   conv=>whnf
   (conv=>whnf);repeat' (first  |(refine kA ?_;conv=>whnf)|(refine Br.mk (fun hc=>?_) fun hc=>?_<;>first|exact hc.elim|conv=>whnf)|(refine kB ?_))
   have FT:CB σ5 τ5 [σ2.length]:=((((((((f6.trans f7).trans f8).trans f9).trans t1).trans t2).trans t3).trans t4).trans t5).mono (by
        intro o ho
        simp only[List.append_nil,List.nil_append,List.cons_append,List.mem_cons,List.mem_nil_iff,or_false]at ho ⊢
        omega)
   have Ahi:e.Ok (σ2.length+1) τ5:=by
        rw[he]
        exact⟨u2,by show σ2.length+1≤σ8.length;omega,rfl,fun h=>by
         have h0:=of_decide_eq_false h
         have:=hQ.1
         exact List.eq_nil_of_length_eq_zero (by show Q.length=0;omega)⟩
   obtain⟨k1,k2⟩:=AfS FT (by intro o ho;have:=List.mem_singleton.1 ho;exact .inl (by omega)) (.inl ⟨rfl,rfl⟩) hOk hnd Ahi (by rw[he];show σ5.length≤σ8.length;omega)
   refine again.mk ⟨_,by omega,i+1,_,0,_,τ5,_,[]++[e],rfl,by omega,(by simp only[List.length_nil]at hKl;simp only[List.nil_append,List.length_singleton];omega),(F5.trans FT).mono (by intro o ho;simp at ho;subst ho;right;omega),by omega,FT.get h15 (by simp;omega),FT.get h25 (by simp;omega),u5,.inr ⟨by simp,_,_,rfl,u4,by omega,fun x hx=>?_⟩,k1,k2,fun k h h'=>?_,rfl,rfl⟩
   ·rw[List.nil_append,List.mem_singleton]at hx
    rw[hx,he]
    show σ8.length≠σ8.length+3
    omega
   ·have hk0:k=0:=by simp at h';exact h'
    subst hk0
    have hi0:i=0:=by simp at hKl;omega
    subst hi0
    rw[he]
    exact⟨rfl,rfl,hQ⟩
  ·have AnN:=Bj hoN
   conv=>whnf
   (conv=>whnf);repeat' (first|(rw [h39];conv=>whnf)|(refine EW fun WI f10 h10 l10=>?_;conv=>whnf)|(refine kA ?_;conv=>whnf)|(refine Br.mk (fun hc=>?_) fun hc=>?_<;>first|exact hc.elim|conv=>whnf)|(refine kB ?_))
   replace h10:nth WI σ9.length=some (.arr (c+1+16) 1 true true []):=h10
   conv=>arg 2;change nth WI σ9.length;rw[h10]
   conv=>whnf
   conv=>arg 2;change Nat.blt σ9.length σ9.length;rw[Lu]
   conv=>whnf
   conv=>arg 2;change nth σ9 (σ8.length+0);rw[d0]
   conv=>whnf
   refine BL d0 fun Ud f11 h11 l11=>?_
   replace h11:nth Ud σ8.length=some (.arr (c+1+1+1+1+1) 1 true true []):=h11
   replace f11:CB σ9 Ud [σ8.length]:=f11
   clear f10 h10 l10 WI
   conv=>whnf
   (conv=>whnf);repeat' (first|((conv=>arg 2;change nth Ud σ8.length;rw[h11]);conv=>whnf)|(refine Ai7 (f:=.str) (l':=(g.nodes[i]).labels) rfl (fun _=>rfl) (by omega) ?_;conv=>whnf)|(refine BL h11 fun σ12 f12 h12 l12=>?_;conv=>whnf)|(refine kA ?_;conv=>whnf)|(refine Br.mk (fun hc=>?_) fun hc=>?_<;>first|exact hc.elim|conv=>whnf)|(refine kB ?_))
   obtain⟨g12,h12⟩:∃g12,nth σ12 σ8.length=some (.arr g12 1 true true (vs .str (g.nodes[i]).labels)):=⟨_,h12⟩
   replace l11:Ud.length=σ9.length:=l11
   have b1:Nat.blt σ8.length Ud.length=true:=Nat.blt_eq.mpr (by omega)
   conv=>arg 2;change nth σ12 σ8.length;rw[h12]
   conv=>whnf
   conv=>arg 2;change Nat.blt σ8.length Ud.length;rw[b1]
   conv=>whnf
   refine BL h11 fun QF f13 h13 l13=>?_
   replace h13:nth QF σ8.length=some (.arr (c+8) 1 true true (vs .str (g.nodes[i]).labels)):=h13
   replace f13:CB Ud QF [σ8.length]:=f13
   replace l13:QF.length=Ud.length:=l13
   have d2':nth QF (σ8.length+2)=some .dead:=f13.get (f11.get d2 (by simp)) (by simp)
   have d3':nth QF (σ8.length+3)=some .dead:=f13.get (f11.get d3 (by simp)) (by simp)
   clear b1
   conv=>whnf
   (conv=>whnf);repeat' (first|(refine Ac Ua ?_;rintro _ rfl;conv=>whnf)|(refine EW fun σ14 f14 ZY l14=>?_;conv=>whnf)|(refine kA ?_;conv=>whnf)|(refine Br.mk (fun hc=>?_) fun hc=>?_<;>first|exact hc.elim|conv=>whnf)|(refine kB ?_))
   obtain⟨e,he⟩:∃e:KN,e=⟨⟨(g.nodes[i]).id,true,(g.nodes[i]).labels,decide (0<(g.nodes[i]).props.length),Q⟩,σ8.length,c+8⟩:=⟨_,rfl⟩
   obtain⟨g14,ZY⟩:∃g14,nth σ14 QF.length=some (.arr g14 3 true false (vs KN.av [e])):=⟨_,by rw[he];exact ZY⟩
   conv=>arg 2;change nth σ14 QF.length;rw[ZY]
   conv=>whnf
   conv=>arg 2;change Nat.blt QF.length QF.length;rw[Lu]
   conv=>whnf
   conv=>arg 2;change nth QF (σ8.length+2);rw[d2']
   conv=>whnf
   refine BL d2' fun Wv f15 h15 l15=>?_
   replace h15:nth Wv (σ8.length+2)=some (.arr (c+13) 3 true false (vs KN.av [e])):=h15
   replace f15:CB QF Wv [σ8.length+2]:=f15
   replace l15:Wv.length=QF.length:=l15
   have Adz:=f15.get d3' (by simp)
   conv=>whnf
   have AdB:=f15.get (f13.get (f11.get (f9.get (f8.get (f7.get (f6.get hoN (by simp)) (by simp;omega)) (by simp;omega)) (by simp)) (by simp;omega)) (by simp;omega)) (by simp;omega)
   have AlK:(KL.length+1)*56≤2 ^ 46:=by omega
   (conv=>whnf);repeat' (first|(refine Bv (Yd h15 rfl) ?_;conv=>whnf)|((conv=>arg 2;change nth Wv oN;rw[AdB]);conv=>whnf)|(refine AlH (f:=KN.av) (l:=KL) (l':=[e]) rfl Afa rfl (by simpa using AlK) ?_;conv=>whnf)|(refine BL AdB fun σ16 f16 h16 l16=>?_;conv=>whnf)|(refine kA ?_;conv=>whnf)|(refine Br.mk (fun hc=>?_) fun hc=>?_<;>first|exact hc.elim|conv=>whnf)|(refine kB ?_))
   obtain⟨g16,h16⟩:∃g16,nth σ16 oN=some (.arr g16 3 true false (vs KN.av (KL++[e]))):=⟨_,h16⟩
   have b2:Nat.blt oN Wv.length=true:=Nat.blt_eq.mpr (Bj AdB)
   conv=>arg 2;change nth σ16 oN;rw[h16]
   conv=>whnf
   conv=>arg 2;change Nat.blt oN Wv.length;rw[b2]
   conv=>whnf
   refine BL AdB fun σ17 f17 h17 l17=>?_
   replace h17:nth σ17 oN=some (.arr (c+14) 3 true false (vs KN.av (KL++[e]))):=h17
   replace f17:CB Wv σ17 [oN]:=f17
   replace l17:σ17.length=Wv.length:=l17
   have Wx:=f17.get (f15.get (f13.get (f11.get h39 (by simp;omega)) (by simp;omega)) (by simp;omega)) (by simp;omega)
   conv=>whnf
   (conv=>whnf);repeat' (first|((conv=>arg 2;change nth σ17 σ2.length;rw[Wx]);conv=>whnf)|(refine BL Wx fun σ18 f18 h18 l18=>?_;conv=>whnf)|(refine kA ?_;conv=>whnf)|(refine Br.mk (fun hc=>?_) fun hc=>?_<;>first|exact hc.elim|conv=>whnf)|(refine kB ?_))
   obtain⟨cl',h18⟩:∃cl',nth σ18 σ2.length=some (.arr (ct+1+1) 4 true cl' [.agg [.own oN (c+14) 0 (KL.length+1),.sl false [],.int .i64 g.BR,.int .i64 g.CJ]]):=⟨_,h18⟩
   conv=>arg 2;change nth σ18 σ2.length;rw[h18]
   conv=>whnf
   refine BL Wx fun σ19 f19 h19 l19=>?_
   clear h19 f19 l19 h18 f18 l18
   conv=>whnf
   have n0:Nat.beq σ2.length σ8.length=false:=by
        cases h:Nat.beq σ2.length σ8.length with
        |false=>rfl
        |true=>have:=Nat.eq_of_beq_eq_true h;omega
   have n1:Nat.beq σ2.length (σ8.length+1)=false:=by
        cases h:Nat.beq σ2.length (σ8.length+1)with
        |false=>rfl
        |true=>have:=Nat.eq_of_beq_eq_true h;omega
   have n2:Nat.beq σ2.length (σ8.length+2)=false:=by
        cases h:Nat.beq σ2.length (σ8.length+2)with
        |false=>rfl
        |true=>have:=Nat.eq_of_beq_eq_true h;omega
   refine Am ?_ ?_
   ·show((true&&(true&&(bif (bif Nat.beq σ2.length σ8.length then true else false)then false else true)))&&((true&&(true&&(bif (bif Nat.beq σ2.length (σ8.length+1)then true else(bif Nat.beq σ2.length σ8.length then true else false))then false else true)))&&((true&&(true&&(bif (bif Nat.beq σ2.length (σ8.length+2)then true else false)then false else true)))&&true)))=true
    rw[n0,n1,n2]
    rfl
   have eN:=f9.get (f8.get (f7.get (f6.get hoN (by simp)) (by simp;omega)) (by simp;omega)) (by simp)
   clear h11 f11 l11 h13 f13 l13 ZY f14 l14 h15 f15 l15 h17 f17 l17 d2' d3' Adz Wx n0 n1 n2 AdB h16 f16 l16 b2
   conv=>whnf
   refine BL d0 fun τ1 t1 u1 v1=>?_
   replace u1:nth τ1 σ8.length=some (.arr (c+5) 1 true true []):=u1
   replace t1:CB σ9 τ1 [σ8.length]:=t1
   replace v1:τ1.length=σ9.length:=v1
   have e2:=t1.get d2 (by simp)
   replace eN:=t1.get eN (by simp;omega)
   have eb:=t1.get h39 (by simp;omega)
   conv=>whnf
   refine BL u1 fun τ2 t2 u2 v2=>?_
   replace u2:nth τ2 σ8.length=some (.arr (c+8) 1 true true (vs .str (g.nodes[i]).labels)):=u2
   replace t2:CB τ1 τ2 [σ8.length]:=t2
   replace v2:τ2.length=τ1.length:=v2
   replace e2:=t2.get e2 (by simp)
   replace eN:=t2.get eN (by simp;omega)
   replace eb:=t2.get eb (by simp;omega)
   conv=>whnf
   refine BL e2 fun τ3 t3 u3 v3=>?_
   replace t3:CB τ2 τ3 [σ8.length+2]:=t3
   replace v3:τ3.length=τ2.length:=v3
   replace eN:=t3.get eN (by simp;omega)
   replace eb:=t3.get eb (by simp;omega)
   replace u2:=t3.get u2 (by simp)
   conv=>whnf
   refine BL eN fun τ4 t4 u4 v4=>?_
   replace u4:nth τ4 oN=some (.arr (c+14) 3 true false (vs KN.av (KL++[e]))):=u4
   replace t4:CB τ3 τ4 [oN]:=t4
   replace v4:τ4.length=τ3.length:=v4
   replace eb:=t4.get eb (by simp;omega)
   replace u2:=t4.get u2 (by simp;omega)
   conv=>whnf
   refine BL eb fun τ5 t5 u5 v5=>?_
   obtain⟨cl2,u5⟩:∃cl2,nth τ5 σ2.length=some (.arr (ct+1+1) 4 true cl2 [.agg [.own oN (c+14) 0 (KL.length+1),.sl false [],.int .i64 g.BR,.int .i64 g.CJ]]):=⟨_,u5⟩
   replace t5:CB τ4 τ5 [σ2.length]:=t5
   replace v5:τ5.length=τ4.length:=v5
   replace u2:=t5.get u2 (by simp;omega)
   replace u4:=t5.get u4 (by simp;omega)
   conv=>whnf
   (conv=>whnf);repeat' (first  |(refine kA ?_;conv=>whnf)|(refine Br.mk (fun hc=>?_) fun hc=>?_<;>first|exact hc.elim|conv=>whnf)|(refine kB ?_))
   have FT:CB σ5 τ5 [oN,σ2.length]:=((((((((f6.trans f7).trans f8).trans f9).trans t1).trans t2).trans t3).trans t4).trans t5).mono (by
        intro o ho
        simp only[List.append_nil,List.nil_append,List.cons_append,List.mem_cons,List.mem_nil_iff,or_false]at ho ⊢
        omega)
   have Ahi:e.Ok (σ2.length+1) τ5:=by
        rw[he]
        exact⟨u2,by show σ2.length+1≤σ8.length;omega,rfl,fun h=>by
         have h0:=of_decide_eq_false h
         have:=hQ.1
         exact List.eq_nil_of_length_eq_zero (by show Q.length=0;omega)⟩
   obtain⟨k1,k2⟩:=AfS FT (by intro o ho;simp only[List.mem_cons,List.mem_nil_iff,or_false]at ho;rcases ho with rfl|rfl<;>first|exact .inr (.inl rfl)|exact .inl (by omega)) (.inr ⟨hK0,_,_,rfl,hoN,Agg,Agh⟩) hOk hnd Ahi (by rw[he];show σ5.length≤σ8.length;omega)
   refine again.mk ⟨_,by omega,i+1,_,0,_,τ5,_,KL++[e],rfl,by omega,by simp;omega,(F5.trans FT).mono (by intro o ho;simp only[List.nil_append,List.mem_cons,List.mem_nil_iff,or_false]at ho;right;omega),by omega,FT.get h15 (by simp;omega),FT.get h25 (by simp;omega),u5,.inr ⟨by simp,_,_,by simp,u4,Agg,fun x hx=>?_⟩,k1,k2,fun k h h'=>?_,rfl,rfl⟩
   ·rcases List.mem_append.1 hx with hx|hx
    ·exact Agh x hx
    ·rw[List.mem_singleton.1 hx,he]
     show σ8.length≠oN
     omega
   ·by_cases hk:k<KL.length
    ·rw[List.getElem_append_left hk];exact hCp k h hk
    ·have hk0:k=i:=by simp at h';omega
     subst hk0
     rw[List.getElem_append_right (by omega)]
     simp only[hKl,Nat.sub_self,List.getElem_cons_zero]
     rw[he]
     exact⟨rfl,rfl,hQ⟩
 have hie:i=g.nodes.length:=by omega
 subst hie
 clear hlt hi
 (conv=>whnf);repeat' (first|(rw [h15];conv=>whnf)|(refine kA ?_;conv=>whnf)|(refine Br.mk (fun hc=>?_) fun hc=>?_<;>first|exact hc.elim|conv=>whnf)|(refine kB ?_))
 all_goals first|(exfalso;omega)|skip
 have hKp:KL.length=g.nodes.length:=hKl
 clear hKl gb
 refine Au (fun m env s=>∃(i c:Nat) (cl:Bool) (σ6:List Obj) (vE:AV) (EL:List GE),m=g.edges.length-i∧i≤g.edges.length∧EL.length=i∧CB σ5 σ6 [σ2.length]∧nth σ6 σ2.length=some (.arr (ct+1+1) 4 true cl [.agg [vN,vE,.int .i64 g.BR,.int .i64 g.CJ]])∧Vu σ5.length σ6 vE EL∧(∀ k (h:k<g.edges.length) (h':k<EL.length),CpE g.edges[k] EL[k])∧env=[(1,.ref σ.length ct 0 0),(2,.ref σ1.length (ct+1) 0 0),(3,.ref σ2.length (ct+1+1) 0 0),(6,.int .i64 i)]∧s=⟨σ6,c⟩) ?_ _ _ _ ⟨0,_,_,σ5,_,[],rfl,by omega,rfl,⟨Nat.le_refl _,fun _ _ _=>rfl⟩,h35,.inl ⟨rfl,rfl⟩,(fun k h h'=>absurd h' (by simp)),rfl,rfl⟩
 clear h35
 rintro _ _ _ ⟨i,c,cl,σ6,vE,EL,rfl,hi,hEl,F6,h36,hEs,hCe,rfl,rfl⟩
 refine⟨rfl,?_⟩
 have h16:=F6.get h15 (by simp;omega)
 have h26:=F6.get h25 (by simp;omega)
 have hl6:=F6.len
 by_cases hlt:i<g.edges.length
 ·obtain⟨_,⟨Q,rfl,hQ⟩,Ua⟩:=(AbG (nl:=(g.edges[i]).pn) (q4 _ (List.getElem_mem hlt))).det
  have AlL:CpE g.edges[i] (⟨(g.edges[i]).id,(g.edges[i]).fr,(g.edges[i]).to,(g.edges[i]).ty,decide (0<(g.edges[i]).props.length),Q⟩:GE):=⟨rfl,rfl,rfl,rfl,hQ,fun h=>by
   have h0:=of_decide_eq_false h
   have:=hQ.1
   exact List.eq_nil_of_length_eq_zero (by show Q.length=0;omega)⟩
  have Ajf:∀k (h:k<g.edges.length) (h':k<(EL++[(⟨(g.edges[i]).id,(g.edges[i]).fr,(g.edges[i]).to,(g.edges[i]).ty,decide (0<(g.edges[i]).props.length),Q⟩:GE)]).length),CpE g.edges[k] (EL++[(⟨(g.edges[i]).id,(g.edges[i]).fr,(g.edges[i]).to,(g.edges[i]).ty,decide (0<(g.edges[i]).props.length),Q⟩:GE)])[k]:=fun k h h'=>by
   by_cases hk:k<EL.length
   ·rw[List.getElem_append_left hk];exact hCe k h hk
   ·have hk0:k=i:=by simp at h';omega
    subst hk0
    rw[List.getElem_append_right (by omega)]
    simp only[hEl,Nat.sub_self,List.getElem_cons_zero]
    exact AlL
  rcases hEs with⟨rfl,rfl⟩|⟨hE0,oE,gE,rfl,hoE,Agf⟩
  ·(conv=>whnf);repeat' (first|(refine EW fun σ7 f7 h7 l7=>?_;have h17:=f7.get h16 (by simp);have h37:=f7.get h36 (by simp);conv=>whnf)|(rw [h16];conv=>whnf)|(rw [h17];conv=>whnf)|(rw [h8];conv=>whnf)|(refine BL h8 fun σ9 f9 h9 l9=>?_;have h39:=f9.get h38 (by simp;omega);conv=>whnf)|(rw [h9];conv=>whnf)|(rw [h7];conv=>whnf)|(refine BL h7 fun σ8 f8 h8 l8=>?_;have h38:=f8.get h37 (by simp;omega);conv=>whnf)|(refine Ac Ua ?_;rintro _ rfl;conv=>whnf)|(rw [h39];conv=>whnf)|(refine kA ?_;conv=>whnf)|(refine Br.mk (fun hc=>?_) fun hc=>?_<;>first|exact hc.elim|conv=>whnf)|(refine kB ?_))
   replace f7:CB σ6 σ7 []:=f7
   replace f8:CB σ7 σ8 [σ6.length]:=f8
   replace f9:CB σ8 σ9 [σ6.length]:=f9
   replace l9:σ9.length=σ8.length:=l9
   replace l8:σ8.length=σ7.length:=l8
   replace l7:σ7.length=σ6.length+1:=l7
   have hA:nth (σ9++[Obj.arr (c+1) 5 true true (vs GE.av [(⟨(g.edges[i]).id,(g.edges[i]).fr,(g.edges[i]).to,(g.edges[i]).ty,decide (0<(g.edges[i]).props.length),Q⟩:GE)])]) σ2.length=some (.arr (ct+1+1) 4 true cl [.agg [vN,.sl false [],.int .i64 g.BR,.int .i64 g.CJ]]):=(Jr (Bj h39)).trans h39
   conv=>arg 2;change nth (σ9++[Obj.arr (c+1) 5 true true (vs GE.av [(⟨(g.edges[i]).id,(g.edges[i]).fr,(g.edges[i]).to,(g.edges[i]).ty,decide (0<(g.edges[i]).props.length),Q⟩:GE)])]) σ2.length;rw[hA]
   conv=>whnf
   (conv=>whnf);repeat' (first|(refine BL hA fun WI f10 h10 l10=>?_;conv=>whnf)|(refine kA ?_;conv=>whnf)|(refine Br.mk (fun hc=>?_) fun hc=>?_<;>first|exact hc.elim|conv=>whnf)|(refine kB ?_))
   obtain⟨cl2,h10⟩:∃cl2,nth WI σ2.length=some (.arr (ct+1+1) 4 true cl2 [.agg [vN,.own σ9.length (c+1) 0 1,.int .i64 g.BR,.int .i64 g.CJ]]):=⟨_,h10⟩
   have h20:nth WI σ9.length=some (.arr (c+1) 5 true true (vs GE.av [(⟨(g.edges[i]).id,(g.edges[i]).fr,(g.edges[i]).to,(g.edges[i]).ty,decide (0<(g.edges[i]).props.length),Q⟩:GE)])):=f10.get LZ (by simp;omega)
   have fA:CB σ9 (σ9++[Obj.arr (c+1) 5 true true (vs GE.av [(⟨(g.edges[i]).id,(g.edges[i]).fr,(g.edges[i]).to,(g.edges[i]).ty,decide (0<(g.edges[i]).props.length),Q⟩:GE)])]) []:=⟨by simp,fun o ho _=>Jr ho⟩
   have FT:CB σ6 WI [σ2.length]:=((((f7.trans f8).trans f9).trans fA).trans f10).mono (by
        intro o ho
        simp only[List.append_nil,List.nil_append,List.cons_append,List.mem_cons,List.mem_nil_iff,or_false]at ho ⊢
        omega)
   all_goals first
        |(exfalso;omega)
        |exact again.mk ⟨_,by omega,i+1,_,_,WI,_,[]++[(⟨(g.edges[i]).id,(g.edges[i]).fr,(g.edges[i]).to,(g.edges[i]).ty,decide (0<(g.edges[i]).props.length),Q⟩:GE)],rfl,by omega,(by simp only[List.length_nil]at hEl;simp only[List.nil_append,List.length_singleton];omega),(F6.trans FT).mono (by intro o ho;simp only[List.cons_append,List.nil_append,List.mem_cons,List.mem_nil_iff,or_false]at ho ⊢;omega),h10,.inr ⟨by simp,_,_,rfl,h20,by omega⟩,Ajf,rfl,rfl⟩
  have Akh:=Bj hoE
  ·(conv=>whnf);repeat' (first|(refine EW fun σ7 f7 h7 l7=>?_;have h17:=f7.get h16 (by simp);have h37:=f7.get h36 (by simp);conv=>whnf)|(rw [h16];conv=>whnf)|(rw [h17];conv=>whnf)|(rw [h8];conv=>whnf)|(refine BL h8 fun σ9 f9 h9 l9=>?_;have h39:=f9.get h38 (by simp;omega);conv=>whnf)|(rw [h9];conv=>whnf)|(rw [h7];conv=>whnf)|(refine BL h7 fun σ8 f8 h8 l8=>?_;have h38:=f8.get h37 (by simp;omega);conv=>whnf)|(refine Ac Ua ?_;rintro _ rfl;conv=>whnf)|(rw [h39];conv=>whnf)|(refine kA ?_;conv=>whnf)|(refine Br.mk (fun hc=>?_) fun hc=>?_<;>first|exact hc.elim|conv=>whnf)|(refine kB ?_))
   replace f7:CB σ6 σ7 []:=f7
   replace f8:CB σ7 σ8 [σ6.length]:=f8
   replace f9:CB σ8 σ9 [σ6.length]:=f9
   replace l9:σ9.length=σ8.length:=l9
   replace l8:σ8.length=σ7.length:=l8
   replace l7:σ7.length=σ6.length+1:=l7
   have hE9:=f9.get (f8.get (f7.get hoE (by simp)) (by simp;omega)) (by simp;omega)
   have hEb:(EL.length+1)*64≤2 ^ 46:=by omega
   conv=>arg 2;change nth σ9 oE;rw[hE9]
   conv=>whnf
   (conv=>whnf);repeat' (first|(refine Vb (f:=GE.av) (l:=EL) (x:=(⟨(g.edges[i]).id,(g.edges[i]).fr,(g.edges[i]).to,(g.edges[i]).ty,decide (0<(g.edges[i]).props.length),Q⟩:GE)) AdM rfl hEb ?_;conv=>whnf)|(refine BL hE9 fun WI f10 h10 l10=>?_;conv=>whnf)|(refine kA ?_;conv=>whnf)|(refine Br.mk (fun hc=>?_) fun hc=>?_<;>first|exact hc.elim|conv=>whnf)|(refine kB ?_))
   replace f10:CB σ9 WI [oE]:=f10
   obtain⟨gE',h10⟩:∃gE',gE'=c+1∧nth WI oE=some (.arr gE' 5 true true (vs GE.av (EL++[(⟨(g.edges[i]).id,(g.edges[i]).fr,(g.edges[i]).to,(g.edges[i]).ty,decide (0<(g.edges[i]).props.length),Q⟩:GE)]))):=⟨_,rfl,h10⟩
   have Ajg:=f10.get h39 (by simp;omega)
   replace l10:WI.length=σ9.length:=l10
   conv=>arg 2;change nth WI σ2.length;rw[Ajg]
   conv=>whnf
   (conv=>whnf);repeat' (first|(refine BL Ajg fun Ud f11 h11 l11=>?_;conv=>whnf)|(refine kA ?_;conv=>whnf)|(refine Br.mk (fun hc=>?_) fun hc=>?_<;>first|exact hc.elim|conv=>whnf)|(refine kB ?_))
   replace f11:CB WI Ud [σ2.length]:=f11
   obtain⟨cl2,h11⟩:∃cl2,nth Ud σ2.length=some (.arr (ct+1+1) 4 true cl2 [.agg [vN,.own oE gE' 0 (EL.length+1),.int .i64 g.BR,.int .i64 g.CJ]]):=⟨_,by rw[h10.1];exact h11⟩
   have h21:=f11.get h10.2 (by simp;omega)
   have FT:CB σ6 Ud [oE,σ2.length]:=((((f7.trans f8).trans f9).trans f10).trans f11).mono (by
        intro o ho
        simp only[List.nil_append,List.cons_append,List.mem_cons,List.mem_nil_iff,or_false]at ho ⊢
        omega)
   all_goals first
        |(exfalso;omega)
        |exact again.mk ⟨_,by omega,i+1,_,_,Ud,_,EL++[(⟨(g.edges[i]).id,(g.edges[i]).fr,(g.edges[i]).to,(g.edges[i]).ty,decide (0<(g.edges[i]).props.length),Q⟩:GE)],rfl,by omega,(by simp;omega),(F6.trans FT).mono (by intro o ho;simp only[List.cons_append,List.nil_append,List.mem_cons,List.mem_nil_iff,or_false]at ho ⊢;omega),h11,.inr ⟨by simp,_,_,by simp,h21,Agf⟩,Ajf,rfl,rfl⟩
 have hie:i=g.edges.length:=by omega
 subst hie
 clear hlt hi
 (conv=>whnf);repeat' (first|(rw [h16];conv=>whnf)|(rw [h36];conv=>whnf)|(rw [h26];conv=>whnf)|(refine BL h26 fun σ7 f7 h7 l7=>?_;conv=>whnf)|(rw [h7];conv=>whnf)|(refine kA ?_;conv=>whnf)|(refine Br.mk (fun hc=>?_) fun hc=>?_<;>first|exact hc.elim|conv=>whnf)|(refine kB ?_))
 all_goals first|(exfalso;omega)|skip
 all_goals (
  obtain⟨cl3,h7⟩:∃cl3,nth σ7 σ1.length=some (.arr (ct+1) 4 true cl3 [.agg [vN,vE,.int .i64 g.BR,.int .i64 g.CJ]]):=⟨_,h7⟩
  replace f7:CB σ6 σ7 [σ1.length]:=f7
  have FT:CB σ5 σ7 [σ2.length,σ1.length]:=F6.trans f7
  refine Bv ((Ht (t:=2) (sz:=some 4) h7).trans rfl) ?_
  refine hK (σ2.length+1) σ5.length σ7 c vN vE KL EL ⟨(F5.trans FT).mono fun o ho=>.inr ?_,by omega,by omega,hNd.fr FT ?_,hEs.fr f7 ?_,fun e he=>?_,hnd,fun e he=>Bj (hOk e he).1,hNd.lt,⟨by simp;omega,fun k h h'=>?_⟩,⟨by omega,fun k h h'=>hCe k h h'⟩⟩
  ·simp only[List.nil_append,List.mem_cons,List.mem_nil_iff,or_false]at ho;omega
  ·intro o ho;simp only[List.mem_cons,List.mem_nil_iff,or_false]at ho;omega
  ·intro o ho;simp only[List.mem_cons,List.mem_nil_iff,or_false]at ho;omega
  ·obtain⟨a,b,c⟩:=hOk e he
   exact⟨FT.get a fun hm=>by simp only[List.mem_cons,List.mem_nil_iff,or_false]at hm;omega,b,c⟩
  ·rw[List.getElem_map]
   exact hCp k h (by simpa using h'))
end AI
end Go.Proofs.YtiimoiecghmebaaDoor
