/- What a migration changes of a graph: the program's and the reference's Changes. Graphs up to the difference between no list and an empty one; a step does not see it. A graph renamed, and renamed back: plain. The order of rules: the program's and the reference's. Lists of rules: which are valid; looking for a rule. Values equal: the program's way and the reference's. Equal of two values that a graph may hold: the program's way and the reference's. -/
import Derived.Test.YtjijnamhalgamaaGreatDoorTMao
import Derived.Test.YtjijnamhalgamaaGreatDoorTEvE
import Derived.Test.YtjijnamhalgamaaGreatDoorTCk8
import Derived.Test.YtjijnamhalgamaaGreatDoorTMal
import Derived.Test.YtjijnamhalgamaaGreatDoorTMan
import Derived.Test.YtjijnamhalgamaaGreatDoorTMad
import Derived.Test.YtjijnamhalgamaaGreatDoorTMae
import Derived.Test.YtjijnamhalgamaaGreatDoorTMaf
import Derived.Test.YtjijnamhalgamaaGreatDoorTMah
set_option linter.unusedVariables false
set_option maxRecDepth 4000
namespace Go.Proofs.YtjijnamhalgamaaGreatDoor
namespace AI
def UA (g:GG) (m:GM):List GC:=g.nodes.flatMap (CW · m)++g.edges.flatMap (FI · m)
noncomputable def Gw (g:GG) (m:GM):List GC×Int:=if EW m≠0 then([],EW m)else if AZ g≠0 then([],AZ g)else if FU g m then([],7)else(UA g m,0)
theorem AfG {g:GG} {m:GM} (h:EW m≠0):Gw g m=([],EW m):=by unfold Gw;rw[if_pos h]
theorem AfH {g:GG} {m:GM} (h:EW m=0) (h1:AZ g≠0):Gw g m=([],AZ g):=by unfold Gw;rw[if_neg (not_not_intro h),if_pos h1]
theorem AfI {g:GG} {m:GM} (h:EW m=0) (h1:AZ g=0) (h2:FU g m):Gw g m=([],7):=by unfold Gw;rw[if_neg (not_not_intro h),if_neg (not_not_intro h1),if_pos h2]
theorem AfJ {g:GG} {m:GM} (h:EW m=0) (h1:AZ g=0) (h2:¬FU g m):Gw g m=(UA g m,0):=by unfold Gw;rw[if_neg (not_not_intro h),if_neg (not_not_intro h1),if_neg h2]
theorem Xh {α β:Type} {f:α→List β} {l:List α} {k i:Nat} {L:List β} (hi:i<l.length) (h:(f l[i]).length≤k) (hL:L.length≤k*i):(L++f l[i]).length≤k*(i+1):=by
 rw[List.length_append,Nat.mul_succ];omega
theorem Apu {g:GG} {m:GM} (hf:Fair g) (hk:m.k=2) {c:Nat} {go:Nat} {b:Bool} {ln:Nat} (hln:ln=g.edges.length) {Q:AQ→Env→Am→Prop}
 (hQ:∀c' go b n tl,n=(g.edges.flatMap (FI · m)).length→Q (.exit 3) ([(3,.ref 1 1 0 0),(8,.own 2 go 0 n)]++tl) ⟨[.arr 0 4 true true [g.av],.arr 1 15 true true [m.av],.arr go 10 b true (vs GC.av (g.edges.flatMap (FI · m)))],c'⟩):
 Run (Ad tab) (.loop l23_0_h l23_0_b) [(3,.ref 1 1 0 0),(8,.own 2 go 0 0),(44,.sl g.en (vs GE.av g.edges)),(45,.int .i64 ln),(46,.int .i64 0)] ⟨[.arr 0 4 true true [g.av],.arr 1 15 true true [m.av],.arr go 10 b true []],c⟩ Q:=by
 have hE:=hf.2.2.1
 subst hln
 refine Ag (fun z env s=>∃(i c go n:Nat) (b:Bool) (L:List GC),z=g.edges.length-i∧i≤g.edges.length∧L=(g.edges.take i).flatMap (FI · m)∧n=L.length∧L.length≤2002*i∧env=[(3,.ref 1 1 0 0),(8,.own 2 go 0 n),(44,.sl g.en (vs GE.av g.edges)),(45,.int .i64 g.edges.length),(46,.int .i64 i)]∧s=⟨[.arr 0 4 true true [g.av],.arr 1 15 true true [m.av],.arr go 10 b true (vs GC.av L)],c⟩) ?_ _ _ _ ⟨0,_,_,_,_,[],rfl,by omega,rfl,rfl,by simp,rfl,rfl⟩
 rintro _ _ _ ⟨i,c,go,n,b,L,rfl,hi,hL,hn,hlen,rfl,rfl⟩
 refine⟨rfl,?_⟩
 by_cases hlt:i<g.edges.length
 ·have hs:=Aa6 (f:=(FI · m)) hlt
  rw[← hL]at hs
  have hp:=hf.2.2.2.2 _ (List.getElem_mem hlt)
  have hb:=Vw g.edges[i] m
  have hb2:(FI g.edges[i] m).length≤2002:=by have:=hp.1.1;omega
  by_cases ht:(g.edges[i]).ty=m.fr
  ·have he:=AbT hk ht
   have hcall:=Aj0 (e:=g.edges[i]) (to:=m.to) hp.1.1
   rw[he]at hcall
   (conv=>whnf);repeat' (first|((first|apply kE hcall|refine AjK (f:=GC.av) (l':=FI g.edges[i] m) rfl Zt hn (by omega) (fun b=>?_)|refine kA ?_|(apply Br.mk<;>intro hc))<;>first|exact hc.elim|conv=>whnf)|refine kB ?_)
   all_goals first
        |exact again.mk ⟨_,by omega,i+1,_,_,_,_,_,rfl,by omega,hs.symm,by simp,Xh (f:=(FI · m)) hlt hb2 hlen,rfl,rfl⟩
        |(exfalso;contradiction)
        |exact again.mk ⟨_,by omega,i+1,_,_,_,_,_,rfl,by omega,hs.symm,by simp,Xh (f:=(FI · m)) hlt hb2 hlen,rfl,rfl⟩
  ·have he:FI g.edges[i] m=[]:=Aa5 fun h=>ht h.2
   rw[he,List.append_nil]at hs
   (conv=>whnf);repeat' (first|((first|refine kA ?_|(apply Br.mk<;>intro hc))<;>first|exact hc.elim|conv=>whnf)|refine kB ?_)
   all_goals first
        |exact again.mk ⟨_,by omega,i+1,_,_,_,_,_,rfl,by omega,hs.symm,hn,by omega,rfl,rfl⟩
        |(exfalso;contradiction)
 ·rw[List.take_of_length_le (by omega)]at hL
  subst hL
  (conv=>whnf);repeat' (first|((first|refine kA ?_|(apply Br.mk<;>intro hc))<;>first|exact hc.elim|conv=>whnf)|refine kB ?_)
  exact hQ _ _ _ _ _ hn
theorem Apv {g:GG} {m:GM} (hf:Fair g) {c:Nat} {go:Nat} {b:Bool} {ln:Nat} (hln:ln=g.nodes.length) {Q:AQ→Env→Am→Prop}
 (hQ:∀c' go b n tl,n=(g.nodes.flatMap (CW · m)).length→Q (.exit 1) ([(3,.ref 1 1 0 0),(8,.own 2 go 0 n)]++tl) ⟨[.arr 0 4 true true [g.av],.arr 1 15 true true [m.av],.arr go 10 b true (vs GC.av (g.nodes.flatMap (CW · m)))],c'⟩):
 Run (Ad tab) (.loop l23_1_h l23_1_b) [(3,.ref 1 1 0 0),(8,.own 2 go 0 0),(29,.sl g.nn (vs GN.av g.nodes)),(30,.int .i64 ln),(31,.int .i64 0)] ⟨[.arr 0 4 true true [g.av],.arr 1 15 true true [m.av],.arr go 10 b true []],c⟩ Q:=by
 have hE:=hf.2.1
 subst hln
 refine Ag (fun z env s=>∃(i c go n:Nat) (b:Bool) (L:List GC),z=g.nodes.length-i∧i≤g.nodes.length∧L=(g.nodes.take i).flatMap (CW · m)∧n=L.length∧L.length≤2*i∧env=[(3,.ref 1 1 0 0),(8,.own 2 go 0 n),(29,.sl g.nn (vs GN.av g.nodes)),(30,.int .i64 g.nodes.length),(31,.int .i64 i)]∧s=⟨[.arr 0 4 true true [g.av],.arr 1 15 true true [m.av],.arr go 10 b true (vs GC.av L)],c⟩) ?_ _ _ _ ⟨0,_,_,_,_,[],rfl,by omega,rfl,rfl,by simp,rfl,rfl⟩
 rintro _ _ _ ⟨i,c,go,n,b,L,rfl,hi,hL,hn,hlen,rfl,rfl⟩
 refine⟨rfl,?_⟩
 by_cases hlt:i<g.nodes.length
 ·have hs:=Aa6 (f:=(CW · m)) hlt
  rw[← hL]at hs
  have hp:=hf.2.2.2.1 _ (List.getElem_mem hlt)
  have hb:=Vu g.nodes[i] m
  (conv=>whnf);repeat' (first|((first|(refine Aa (AjZ (n:=g.nodes[i]) (m:=m) (by have:=hp.1;omega) hp.2) ?_;rintro _ ⟨b9,rfl,_⟩)|refine AjK (f:=GC.av) (l':=CW g.nodes[i] m) rfl Zt hn (by omega) (fun b=>?_)|refine kA ?_|(apply Br.mk<;>intro hc))<;>first|exact hc.elim|conv=>whnf)|refine kB ?_)
  all_goals first
   |exact again.mk ⟨_,by omega,i+1,_,_,_,_,_,rfl,by omega,hs.symm,by simp,Xh (f:=(CW · m)) hlt hb hlen,rfl,rfl⟩
   |exact again.mk ⟨_,by omega,i+1,_,_,_,_,_,rfl,by omega,hs.symm,by simp,Xh (f:=(CW · m)) hlt hb hlen,rfl,rfl⟩
 ·rw[List.take_of_length_le (by omega)]at hL
  subst hL
  (conv=>whnf);repeat' (first|((first|refine kA ?_|(apply Br.mk<;>intro hc))<;>first|exact hc.elim|conv=>whnf)|refine kB ?_)
  exact hQ _ _ _ _ _ hn
set_option maxHeartbeats 2000000 in
theorem AfK {g:GG} {m:GM} (hg:g.ok) (hm:m.ok) (hf:AZ g=0→Fair g):Ae (Ad tab) 23 [g.av,m.av] (fun v=>∃b,v=.BD [.sl b (vs GC.av (Gw g m).1),.int .i64 (Gw g m).2]):=by
 by_cases h1:EW m=0
 case neg=>
  rw[AfG h1]
  refine Ac rfl rfl ?_
  (conv=>whnf);repeat' (first|((first|apply kE (Ajd hm)|refine kA ?_|(apply Br.mk<;>intro hc))<;>first|exact hc.elim|conv=>whnf)|refine kB ?_)
  all_goals first|exact⟨_,rfl⟩|omega
 have hM:=Ajd hm
 rw[h1]at hM
 by_cases h2:AZ g=0
 case neg=>
  rw[AfH h1 h2]
  refine Ac rfl rfl ?_
  (conv=>whnf);repeat' (first|((first|apply kE hM|apply kE (V6 hg)|refine kA ?_|(apply Br.mk<;>intro hc))<;>first|exact hc.elim|conv=>whnf)|refine kB ?_)
  all_goals first|exact⟨_,rfl⟩|omega
 have hF:=hf h2
 have hC:=V6 hg
 rw[h2]at hC
 by_cases h3:FU g m
 ·rw[AfI h1 h2 h3]
  refine Ac rfl rfl ?_
  (conv=>whnf);repeat' (first|((first|apply kE hM|apply kE hC|refine Aq (AeJ hF) (fun hz=>?_) (fun hz=>?_)|refine kA ?_|(apply Br.mk<;>intro hc))<;>first|exact hc.elim|conv=>whnf)|refine kB ?_)
  all_goals first|exact⟨_,rfl⟩|(exfalso;exact absurd h3 ‹_›)|omega
 rw[AfJ h1 h2 h3]
 have hT:=AeJ (m:=m) hF
 rw[decide_eq_false h3]at hT
 by_cases k2:m.k=2
 ·have e1:UA g m=g.edges.flatMap (FI · m):=by rw[UA,Uc (by omega) (by omega) (by omega) (by omega)];rfl
  rw[e1]
  refine Ac rfl rfl ?_
  (conv=>whnf);repeat' (first|((first|apply kE hM|apply kE hC|apply kE hT|refine kA ?_|(apply Br.mk<;>intro hc))<;>first|exact hc.elim|conv=>whnf)|refine kB ?_)
  all_goals first
   |omega
   |(refine Apu hF k2 rfl ?_
     intro c' go b n tl hn
     (conv=>whnf);repeat' (first|((first|refine kA ?_|(apply Br.mk<;>intro hc))<;>first|exact hc.elim|conv=>whnf)|refine kB ?_)
     all_goals first|exact⟨b,by rw[hn,JU,List.drop_zero,List.take_length];rfl⟩)
 by_cases k6:m.k=6∨m.k=7
 ·have e1:UA g m=[]:=by rw[UA,Uc (by omega) (by omega) (by omega) (by omega),Ud k2];rfl
  rw[e1]
  refine Ac rfl rfl ?_
  (conv=>whnf);repeat' (first|((first|apply kE hM|apply kE hC|apply kE hT|refine kA ?_|(apply Br.mk<;>intro hc))<;>first|exact hc.elim|conv=>whnf)|refine kB ?_)
  all_goals first
   |omega
   |exact⟨_,rfl⟩
 ·have e1:UA g m=g.nodes.flatMap (CW · m):=by rw[UA,Ud k2,List.append_nil]
  rw[e1]
  refine Ac rfl rfl ?_
  (conv=>whnf);repeat' (first|((first|apply kE hM|apply kE hC|apply kE hT|refine kA ?_|(apply Br.mk<;>intro hc))<;>first|exact hc.elim|conv=>whnf)|refine kB ?_)
  all_goals first
   |omega
   |(refine Apv hF rfl ?_
     intro c' go b n tl hn
     (conv=>whnf);repeat' (first|((first|refine kA ?_|(apply Br.mk<;>intro hc))<;>first|exact hc.elim|conv=>whnf)|refine kB ?_)
     all_goals first|exact⟨b,by rw[hn,JU,List.drop_zero,List.take_length];rfl⟩)
section
variable {α κ:Type} {lt:κ→κ→Bool} {key:α→κ} {f:α→α}
end
def Ako (n:GN):GN:=⟨n.id,true,n.labels,true,n.props⟩
def nrmE (e:GE):GE:=⟨e.id,e.fr,e.to,e.ty,true,e.props⟩
def nrmG (g:GG):GG:=⟨true,g.nodes.map Ako,true,g.edges.map nrmE,g.Df,g.DC⟩
def SamS (a b:Int×GG):Prop:=a.1=b.1∧nrmG a.2=nrmG b.2
theorem SamS.trans {a b c:Int×GG} (h:SamS a b) (k:SamS b c):SamS a c:=⟨h.1.trans k.1,h.2.trans k.2⟩
theorem SamS.symm {a b:Int×GG} (h:SamS a b):SamS b a:=⟨h.1.symm,h.2.symm⟩
def Abo (m:GM):GM:={m with fr:=m.to,to:=m.fr}
theorem AlB {m:GM} (h:EW m=0) (hk:EC m.k):EW (Abo m)=0:=by
 obtain⟨h1,h2,h3⟩:=AfY h
 have hk':m.k=1∨m.k=2∨m.k=3:=hk
 have f1:FP m.k:=by unfold FP;omega
 have f2:ER m.k:=by unfold ER;omega
 have b1:¬AcB (Abo m):=by
  unfold AcB Abo at*
  simp only[not_or,not_and,Classical.not_not]at h1 ⊢
  refine⟨h1.1,fun a e=>h1.2.1 a e.symm,h1.2.2.1,fun a=>absurd f1 a,fun a=>absurd f2 a,?_⟩
  exact h1.2.2.2.2.2
 have b2:¬Dc (Abo m):=by
  unfold Dc Abo at*
  simp only[not_or,not_and,Classical.not_not]at h2 ⊢
  exact⟨h2.1,fun _=>h2.2.2 f2,fun _=>h2.2.1 f1⟩
 unfold EW
 rw[if_neg b1,if_neg b2,if_neg (by show¬(m.k=5∧_);omega),if_neg (by show¬CV m.k;unfold CV;omega)]
def SamG (a b:GG):Prop:=a.nodes.map Ako=b.nodes.map Ako∧a.edges.map nrmE=b.edges.map nrmE
theorem AfR {α β:Type} {F:α→β} {l m:List α} (h:Afk (fun a b=>F a=F b) l m):l.map F=m.map F:=by
 refine List.ext_getElem (by rw[List.length_map,List.length_map];exact h.1) fun i h1 h2=>?_
 rw[List.getElem_map,List.getElem_map]
 exact h.2 i (by simpa using h1) (by simpa using h2)
theorem Agq {α β:Type} {F:α→β} {l m:List α} (h:l.map F=m.map F):Afk (fun a b=>F a=F b) l m:=by
 have hl:=congrArg List.length h
 rw[List.length_map,List.length_map]at hl
 refine⟨hl,fun i h1 h2=>?_⟩
 have:=congrArg (fun z=>z[i]?) h
 simp only[List.getElem?_map,List.getElem?_eq_getElem h1,List.getElem?_eq_getElem h2,Option.map_some,Option.some.injEq]at this
 exact this
theorem Aij {α:Type} {R:α→α→Prop} {l m:List α} (h:Afk R l m) {a:α} (ha:a∈l):∃b∈m,R a b:=by
 obtain⟨i,hi,rfl⟩:=List.getElem_of_mem ha
 exact⟨_,List.getElem_mem (by have:=h.1;omega),h.2 i hi (by have:=h.1;omega)⟩
theorem AgM {α:Type} {R S T:α→α→Prop} {l m n:List α} (h:∀a b c,R a b→S b c→c∈n→T a c) (h1:Afk R l m) (h2:Afk S m n):Afk T l n:=
 ⟨h1.1.trans h2.1,fun i a b=>h _ (m[i]'(by have:=h1.1;omega)) _ (h1.2 i a (by have:=h1.1;omega)) (h2.2 i (by have:=h1.1;omega) b) (List.getElem_mem b)⟩
theorem runG_of {L:List GC}:∀{g:GG} {i:Nat},(RX g L i).2.2=0→AcL g L=some (RX g L i).1:=by
 induction L with
 |nil=>intro g i _;rfl
 |cons c L ih=>
  intro g i h
  rw[RX]at h ⊢
  rw[AcL]
  by_cases h0:(stepG g c).1=0
  ·rw[if_neg (not_not_intro h0)]at h ⊢
   rw[if_pos h0]
   exact ih h
  ·rw[if_pos h0]at h
   exact absurd h h0
theorem runG_ind {P:GG→Prop} {L:List GC} (hs:∀g c,c∈L→P g→P (stepG g c).2):∀{g h:GG},P g→AcL g L=some h→P h:=by
 induction L with
 |nil=>intro g h k e;cases e;exact k
 |cons c L ih=>
  intro g h k e
  rw[AcL]at e
  split at e
  ·exact ih (fun g c' hc'=>hs g c' (by simp[hc'])) (hs g c (by simp) k) e
  ·cases e
theorem chk_runG {L:List GC} {g h:GG} (k:YU g) (e:AcL g L=some h):YU h:=runG_ind (P:=YU) (fun g c _ k=>AcU k) k e
theorem chs_n {g:GG} {m:GM} (h:m.k≠2):UA g m=g.nodes.flatMap (CW · m):=by
 unfold UA
 have:g.edges.flatMap (FI · m)=[]:=by
  rw[List.flatMap_eq_nil_iff]
  intro e _
  unfold FI
  rw[if_neg (fun k=>h k.1)]
 rw[this,List.append_nil]
theorem chs_e {g:GG} {m:GM} (h:m.k=2):UA g m=g.edges.flatMap fun e=>if e.ty=m.fr then reE m.to e else[]:=by
 unfold UA
 have h1:g.nodes.flatMap (CW · m)=[]:=by
  rw[List.flatMap_eq_nil_iff]
  intro n _
  exact AaL (by omega) (by omega) (by omega) (by omega)
 rw[h1,List.nil_append]
 congr 1
 funext e
 unfold FI
 by_cases ht:e.ty=m.fr
 ·rw[if_pos ⟨h,ht⟩,if_pos ht];rfl
 ·rw[if_neg (fun k=>ht k.2),if_neg ht]
theorem Aii {m:GM} (h:EW m=0) (hk:EC m.k):AaA m.fr∧AaA m.to∧m.fr≠m.to∧(m.k=3→AaA m.label):=by
 obtain⟨h1,h2,_⟩:=AfY h
 have hk':m.k=1∨m.k=2∨m.k=3:=hk
 unfold Dc at h2
 unfold AcB at h1
 simp only[not_or,not_and,Classical.not_not]at h1 h2
 exact⟨h2.2.1 (by unfold FP;omega),h2.2.2 (by unfold ER;omega),h1.2.1 hk,fun h3=>h2.1 (by unfold BP;omega)⟩
def freeG (g:GG) (lb k:List UInt8):Prop:=∀n∈g.nodes,lb∈n.labels→¬AcA n.props k
theorem shape1 {g:GG} {m:GM} (hg:VG g) (hm:EW m=0) (hk:m.k=1) (ht:¬FU g m):
 ∃h,AcL g (UA g m)=some h∧h.edges=g.edges∧Afk (fun a n=>a.id=n.id∧a.props=n.props∧a.labels=AlW m.fr m.to n.labels) h.nodes g.nodes:=by
 obtain⟨n1,n2,n3,_⟩:=Aii hm (by unfold EC;omega)
 rw[AaX hk]at ht
 rw[chs_n (by omega)]
 obtain⟨h,r,e,a⟩:=AfO (C:=fun n=>VN n∧m.to∉n.labels) (F:=(CW · m)) (R:=fun a n=>a.props=n.props∧a.labels=AlW m.fr m.to n.labels) (fun n hn h q f E at_ l p=>by
  by_cases hf:m.fr∈n.labels
  ·rw[AgE hk hf]
   obtain⟨h',m',r,a',p',l'⟩:=run_r1 hn.1.id n1 n2 at_ (by rw[l];exact hf) (by rw[l];exact hn.2) n3
   exact⟨h',m',r,a',p'.trans p,by rw[l',l]⟩
  ·rw[Ad3 hk hf]
   exact⟨h,q,rfl,at_,p,by rw[l,Aio hf]⟩) hg (fun n hn=>⟨hg.n n hn,fun hx=>ht ⟨n,hn,hx⟩⟩)
 exact⟨h,r,e,a⟩
def Akt (m:GM) (n:GN):List GP:=if m.label∈n.labels then AlT m.fr m.to n.props else n.props
theorem shape3 {g:GG} {m:GM} (hg:VG g) (hm:EW m=0) (hk:m.k=3) (ht:¬FU g m):
 ∃h,AcL g (UA g m)=some h∧h.edges=g.edges∧Afk (fun a n=>a.id=n.id∧a.labels=n.labels∧a.props=Akt m n) h.nodes g.nodes:=by
 obtain⟨n1,n2,n3,_⟩:=Aii hm (by unfold EC;omega)
 rw[AaZ hk]at ht
 rw[chs_n (by omega)]
 obtain⟨h,r,e,a⟩:=AfO (C:=fun n=>VN n∧¬tk3 n m) (F:=(CW · m)) (R:=fun a n=>a.labels=n.labels∧a.props=Akt m n) (fun n hn h q f E at_ l p=>by
  unfold Akt
  by_cases hb:m.label∈n.labels
  ·rw[if_pos hb]
   by_cases hf:AcA n.props m.fr
   ·rw[AgG hk hb hf]
    have hto:¬AcA n.props m.to:=fun h2=>hn.2 ⟨hb,hf,h2⟩
    have hlf:Dx (ET q.props m.fr):=by
      rw[p,val_lk (has_lk hf hn.1.a.iP)]
      exact hn.1.pl _ (XK (has_lk hf hn.1.a.iP)).1
    obtain⟨h',m',r,a',l',p'⟩:=run_r3 hn.1.id n1 n2 at_ (by rw[p];exact hf) (by rw[p];exact hto) n3 hlf
    rw[p]at r
    exact⟨h',m',r,a',l'.trans l,by rw[p',p]⟩
   ·rw[Ad4 hk hf]
    exact⟨h,q,rfl,at_,l,by rw[p,Aid hf]⟩
  ·rw[if_neg hb,AgF (by omega) hb]
   exact⟨h,q,rfl,at_,l,p⟩) hg (fun n hn=>⟨hg.n n hn,fun hx=>ht ⟨n,hn,hx⟩⟩)
 exact⟨h,r,e,a⟩
theorem back_run {g a:GG} {m:GM} (hg:AZ g=0) (hE:g.edges.length<4000) (hm:EW m=0) (hk:EC m.k) (ht:¬FU g m) (hfree:m.k=3→freeG g m.label m.to) (hr:AcL g (UA g m)=some a):
 AZ a=0∧¬FU a (Abo m)∧∃b,AcL a (UA a (Abo m))=some b∧SamG b g:=by
 have vg:=Amx hg
 have ca:YU a:=chk_runG (AcS hg) hr
 have va:=ca.vg
 have hm2:=AlB hm hk
 have hk':m.k=1∨m.k=2∨m.k=3:=hk
 obtain⟨n1,n2,n3,_⟩:=Aii hm hk
 refine⟨AjX ca,?_⟩
 rcases hk' with h1|h1|h1
 ·obtain⟨a',r,e,al⟩:=shape1 vg hm h1 ht
  rw[hr]at r
  cases r
  have hto:∀n∈g.nodes,m.to∉n.labels:=fun n hn hx=>ht ((AaX h1).2 ⟨n,hn,hx⟩)
  have ht2:¬FU a (Abo m):=by
   rw[AaX (m:=Abo m) h1]
   rintro⟨n,hn,hx⟩
   obtain⟨n0,hn0,q1,q2,q3⟩:=Aij al hn
   have hx:m.fr∈n.labels:=hx
   rw[q3]at hx
   exact Akj n3 (hto n0 hn0) hx
  refine⟨ht2,?_⟩
  obtain⟨b,r2,e2,al2⟩:=shape1 va hm2 h1 ht2
  refine⟨b,r2,AfR (AgM (fun x y z h1 h2 hz=>?_) al2 al),by rw[e2,e]⟩
  have hl:x.labels=z.labels:=by
   rw[h1.2.2,h2.2.2]
   exact renL_back (vg.n z hz).a.iL n3 (hto z hz)
  unfold Ako
  rw[h1.1,h2.1,h1.2.1,h2.2.1,hl]
 ·rw[chs_e h1]at hr
  obtain⟨a',r,e,al⟩:=Aeo (fr:=m.fr) n2 vg hE
  rw[hr]at r
  cases r
  have hto:∀e∈g.edges,e.ty≠m.to:=fun n hn hx=>ht ((AaY h1).2 ⟨n,hn,hx⟩)
  have ht2:¬FU a (Abo m):=by
   rw[AaY (m:=Abo m) h1]
   rintro⟨n,hn,hx⟩
   obtain⟨n0,hn0,q1,q2,q3,q4,q5⟩:=Aij al hn
   have hx:n.ty=m.fr:=hx
   rw[q4]at hx
   split at hx
   ·exact n3 hx.symm
   ·rename_i h;exact h hx
  refine⟨ht2,?_⟩
  have hlen:=al.1
  rw[chs_e (m:=Abo m) h1]
  obtain⟨b,r2,e2,al2⟩:=Aeo (fr:=m.to) (to:=m.fr) n1 va (by omega)
  refine⟨b,r2,by rw[e2,e],AfR (AgM (fun x y z h1 h2 hz=>?_) al2 al)⟩
  obtain⟨p1,p2,p3,p4,p5⟩:=h1
  obtain⟨q1,q2,q3,q4,q5⟩:=h2
  have hty:x.ty=z.ty:=by
   rw[p4,q4]
   by_cases hf:z.ty=m.fr
   ·rw[if_pos hf,if_pos rfl,hf]
   ·rw[if_neg hf,if_neg (hto z hz)]
  unfold nrmE
  rw[p1,q1,p2,q2,p3,q3,hty,p5,q5]
 ·obtain⟨a',r,e,al⟩:=shape3 vg hm h1 ht
  rw[hr]at r
  cases r
  have hfr:=hfree h1
  have ht2:¬FU a (Abo m):=by
   rw[AaZ (m:=Abo m) h1]
   rintro⟨n,hn,hb,hx,hy⟩
   obtain⟨n0,hn0,q1,q2,q3⟩:=Aij al hn
   have hb:m.label∈n.labels:=hb
   have hx:AcA n.props m.to:=hx
   have hy:AcA n.props m.fr:=hy
   rw[q2]at hb
   unfold Akt at q3
   rw[if_pos hb]at q3
   rw[q3]at hx hy
   by_cases hf:AcA n0.props m.fr
   ·exact hasnt_renP (vg.n n0 hn0).a.iP n3 hf hy
   ·rw[Aid hf]at hx
    exact hfr n0 hn0 hb hx
  refine⟨ht2,?_⟩
  obtain⟨b,r2,e2,al2⟩:=shape3 va hm2 h1 ht2
  refine⟨b,r2,AfR (AgM (fun x y z h1 h2 hz=>?_) al2 al),by rw[e2,e]⟩
  have hp:x.props=z.props:=by
   rw[h1.2.2]
   unfold Akt
   show(if m.label∈y.labels then AlT m.to m.fr y.props else y.props)=_
   rw[h2.2.1]
   by_cases hb:m.label∈z.labels
   ·rw[if_pos hb,h2.2.2]
    unfold Akt
    rw[if_pos hb]
    exact renP_back (vg.n z hz).a.iP n3 (hfr z hz hb)
   ·rw[if_neg hb,h2.2.2]
    unfold Akt
    rw[if_neg hb]
  unfold Ako
  rw[h1.1,h2.1,h1.2.1,h2.2.1,hp]
section
open Go.Sort
def NI (x y:GR):Int:=Iw (GK x.k y.k) (Iw (cS x.name y.name) (Iw (cS x.key y.key) (Iw (GK x.n y.n) (Iw (cS x.fr y.fr) (cS x.to y.to)))))
theorem H7:PC NI:=(Ada.on GR.k).lex ((SI.on GR.name).lex ((SI.on GR.key).lex ((Ada.on GR.n).lex ((SI.on GR.fr).lex (SI.on GR.to)))))
theorem Qs {x y:GR}:NI x y=0↔x=y:=by
 unfold NI
 simp only[AbF,Gj,Rx]
 constructor
 ·rintro⟨h1,h2,h3,h4,h5,h6⟩
  cases x;cases y
  simp only[GR.mk.injEq]
  exact⟨h1,h4,h2,h3,h5,h6⟩
 ·rintro rfl
  exact⟨rfl,rfl,rfl,rfl,rfl,rfl⟩
def BX (x y:GR):Bool:=decide (NI x y<0)
theorem Nq {x y:GR}:BX x y=true↔NI x y<0:=by unfold BX;rw[decide_eq_true_eq]
theorem Ov {x y:GR}:BX x y=false↔0≤NI x y:=by unfold BX;rw[decide_eq_false_iff_not];omega
theorem Es:SWO BX where
 irrefl x:=Ov.2 (by have:=H7.anti x x;omega)
 trans x y z h1 h2:=Nq.2 (by
  have a:=Nq.1 h1
  have b:=Nq.1 h2
  have h3:=H7.trans x y z (by omega) (by omega)
  have h4:=H7.trans z x y
  have h5:=H7.anti x z
  have h6:=H7.anti y z
  omega)
 ntrans x y z h1 h2:=Ov.2 (by
  have a:=Ov.1 h1
  have b:=Ov.1 h2
  have h3:=H7.trans z y x
  have h4:=H7.anti x y
  have h5:=H7.anti y z
  have h6:=H7.anti x z
  omega)
theorem Aas (x y:GR) (h1:BX x y=false) (h2:BX y x=false):x=y:=Qs.1 (by
 have a:=Ov.1 h1
 have b:=Ov.1 h2
 have:=H7.anti x y
 omega)
theorem BQ (x:GR):x.av.cells.length=6:=rfl
instance:Inhabited GR:=⟨⟨0,0,[],[],[],[]⟩⟩
theorem Ajx {x y:List UInt8}:Ae (Ad tab) 86 [.str x,.str y] (· =.int .i64 (cS x y)):=by
 refine Ac rfl rfl ?_
 (conv=>whnf);repeat' (first|((first|refine kA ?_|(apply Br.mk<;>intro hc))<;>first|exact hc.elim|conv=>whnf)|refine kB ?_)
 all_goals first|exact Aik hc|exact Ail ‹_› hc|exact Aim hc
theorem D6 {x y:GR}:Ae (Ad tab) 56 [x.av,y.av] (· =.int .i64 (NI x y)):=by
 have ho:Ae (Ad tab) 121 [.sl true [.int .i64 (GK x.k y.k),.int .i64 (cS x.name y.name),.int .i64 (cS x.key y.key),.int .i64 (GK x.n y.n),.int .i64 (cS x.fr y.fr),.int .i64 (cS x.to y.to)]] (· =.int .i64 (NI x y)):=by
  have h:=orV (l:=[GK x.k y.k,cS x.name y.name,cS x.key y.key,GK x.n y.n,cS x.fr y.fr,cS x.to y.to]) (nn:=true) (by simp)
  have e:fnz [GK x.k y.k,cS x.name y.name,cS x.key y.key,GK x.n y.n,cS x.fr y.fr,cS x.to y.to]=NI x y:=by
   unfold NI
   simp only[fnz]
   congr 1;congr 1;congr 1;congr 1;congr 1
   unfold Iw;split<;>omega
  rw[e]at h
  exact h
 refine Ac rfl rfl ?_
 (conv=>whnf);repeat' (first|((first|apply kE compare|apply kE Xx|apply kE ho|refine kA ?_|(apply Br.mk<;>intro hc))<;>first|exact hc.elim|conv=>whnf)|refine kB ?_)
 all_goals first|rfl
set_option maxHeartbeats 2000000 in
theorem Agk {x y:GR}:Ae (Ad tab) 38 [x.av,y.av] (· =.int .i64 (NI x y)):=by
 refine Ac rfl rfl ?_
 (conv=>whnf);repeat' (first|((first|apply kE Ajx|refine kA ?_|(apply Br.mk<;>intro hc))<;>first|exact hc.elim|conv=>whnf)|refine kB ?_)
 all_goals
  refine congrArg (AV.int .i64) (?_:_=NI x y)
  unfold NI Iw GK
  first|grind
theorem Hr {x y:GR} {A B:Prop} (h1:BX x y=true→A) (h2:BX x y=false→B):NV (NI x y<0) A B:=
 ⟨fun h=>h1 (decide_eq_true h),fun h=>h2 (decide_eq_false h)⟩
instance:DecidableEq GR:=fun x y=>if h:x.k=y.k∧x.n=y.n∧x.name=y.name∧x.key=y.key∧x.fr=y.fr∧x.to=y.to then .isTrue (by cases x;cases y;simp_all)else .isFalse (by rintro rfl;exact h ⟨rfl,rfl,rfl,rfl,rfl,rfl⟩)
theorem eqR (x y:GR):bin .eql (.flat [.int,.int,.str,.str,.str,.str]) (.agg (List.take 6 x.av.cells)) (.agg (List.take 6 y.av.cells))=some (.bool (decide (x=y))):=by
 obtain⟨k,n,a,b,c,d⟩:=x
 obtain⟨k',n',a',b',c',d'⟩:=y
 have e:∀z z':Int,(z==z')=decide (z=z'):=fun z z'=>by by_cases h:z=z'<;>simp[h]
 have e2:∀z z':List UInt8,(z==z')=decide (z=z'):=fun z z'=>by by_cases h:z=z'<;>simp[h]
 by_cases h1:k=k'<;>by_cases h2:n=n'<;>by_cases h3:a=a'<;>by_cases h4:b=b'<;>by_cases h5:c=c'<;>by_cases h6:d=d'<;>simp[bin,Uy,Jg,Dh,GR.av,AV.cells,e,e2,h1,h2,h3,h4,h5,h6]
theorem neR (x y:GR):bin .neq (.flat [.int,.int,.str,.str,.str,.str]) (.agg (List.take 6 x.av.cells)) (.agg (List.take 6 y.av.cells))=some (.bool (decide (¬ x=y))):=by
 obtain⟨k,n,a,b,c,d⟩:=x
 obtain⟨k',n',a',b',c',d'⟩:=y
 have e:∀z z':Int,(z==z')=decide (z=z'):=fun z z'=>by by_cases h:z=z'<;>simp[h]
 have e2:∀z z':List UInt8,(z==z')=decide (z=z'):=fun z z'=>by by_cases h:z=z'<;>simp[h]
 by_cases h1:k=k'<;>by_cases h2:n=n'<;>by_cases h3:a=a'<;>by_cases h4:b=b'<;>by_cases h5:c=c'<;>by_cases h6:d=d'<;>simp[bin,Uy,Jg,Dh,GR.av,AV.cells,e,e2,h1,h2,h3,h4,h5,h6]
attribute [irreducible] BX NI
end
theorem ZU {a:AV} (h:Like Tryz.prog 26 a):∃nn l,a=.sl nn (vs GR.av l)∧(nn=false→l=[])∧Ln l∧∀y∈l,y.ok:=by
 obtain⟨d,h⟩:=h
 obtain⟨d',_,nn,xs,rfl,h1,h2,h3⟩:=TA Tryz.underlying26 h
 obtain⟨l,rfl,h4⟩:=Ld (f:=GR.av) (Q:=GR.ok) fun x hx=>by
  obtain⟨cs,rfl,h0⟩:=Fq Tryz.underlying44 (h3 x hx)
  obtain⟨r,rfl,hr⟩:=Ue h0
  exact⟨r,rfl,hr⟩
 exact⟨nn,l,rfl,fun h=>by have:=h1 h;simpa using this,Va (by simpa using h2),h4⟩
def okR (l:List GR) (j:Nat):Prop:=∀h:j<l.length,Dt l[j]=0∧(0<j→NI (l[j-1]'(by omega)) l[j]<0)
def Du (l:List GR):Prop:=l.length≤40∧∀j,j<l.length→okR l j
noncomputable instance (l:List GR):Decidable (Du l):=Classical.propDecidable _
theorem Agi {l:List GR} {nn:Bool} (hl:l.length<2^62) (hok:∀r∈l,r.ok):Ae (Ad tab) 51 [.sl nn (vs GR.av l)] (· =.bool (decide (Du l))):=by
 refine Ac rfl rfl ?_
 (conv=>whnf);repeat' (first|((first|refine kA ?_|(apply Br.mk<;>intro hc))<;>first|exact hc.elim|conv=>whnf)|refine kB ?_)
 refine Ag (fun m env s=>∃i c:Nat,m=l.length-i∧env=[(0,.sl nn (vs GR.av l)),(5,.sl nn (vs GR.av l)),(6,.int .i64 l.length),(7,.int .i64 i)]∧s=⟨[],c⟩∧∀j,j<i→okR l j) ?_ _ _ _ ⟨0,0,rfl,rfl,rfl,fun j h=>absurd h (by omega)⟩
 rintro _ _ _ ⟨i,c,rfl,rfl,rfl,hx⟩
 refine⟨rfl,?_⟩
 by_cases hlt:i<l.length
 ·have hr:=NQ (hok _ (List.getElem_mem hlt))
  by_cases h0:i=0
  ·subst h0
   (conv=>whnf);repeat' (first|((first|apply kE hr|refine kA ?_|(apply Br.mk<;>intro hc))<;>first|exact hc.elim|conv=>whnf)|refine kB ?_)
   all_goals first
        |exact again.mk ⟨_,by omega,1,_,rfl,rfl,rfl,fun j hj=>by
          obtain rfl:j=0:=by omega
          exact fun _=>⟨by omega,fun h=>absurd h (by omega)⟩⟩
        |exact Au fun h=>absurd (h.2 0 hlt hlt).1 (by omega)
        |omega
  ·have ho:=D6 (x:=l[i-1]'(by omega)) (y:=l[i])
   (conv=>whnf);repeat' (first|((first|apply kE hr|apply kE ho|(apply Af;(· exact nVz (i-1) (by omega) (by omega)))|refine kA ?_|(apply Br.mk<;>intro hc))<;>first|exact hc.elim|conv=>whnf)|refine kB ?_)
   all_goals first
        |exact again.mk ⟨_,by omega,i+1,_,rfl,rfl,rfl,fun j hj=>by
          rcases Nat.lt_or_ge j i with h|h
          ·exact hx j h
          ·obtain rfl:j=i:=by omega
           exact fun _=>⟨by omega,fun _=>by omega⟩⟩
        |exact Au fun h=>by have:=h.2 i hlt hlt;omega
        |omega
 ·(conv=>whnf);repeat' (first|((first|refine kA ?_|(apply Br.mk<;>intro hc))<;>first|exact hc.elim|conv=>whnf)|refine kB ?_)
  all_goals first
   |exact Bd ⟨by omega,fun j hj=>hx j (by omega)⟩
   |exact Au fun h=>absurd h.1 (by omega)
   |exact Agp ⟨fun h=>⟨by omega,fun j hj=>hx j (by omega)⟩,fun h=>by have:=h.1;omega⟩
theorem AlP {l:List GR} {nn:Bool} (hl:l.length<2^62) (hok:∀r∈l,r.ok):Ae (Ad tab) 15 [.sl nn (vs GR.av l)] (· =.bool (decide (Du l))):=by
 refine Ac rfl rfl ?_
 (conv=>whnf);repeat' (first|((first|refine kA ?_|(apply Br.mk<;>intro hc))<;>first|exact hc.elim|conv=>whnf)|refine kB ?_)
 ·exact Au fun h=>by have:=h.1;omega
 refine Ag (fun m env s=>∃i:Nat,m=l.length-i∧env=[(0,.sl nn (vs GR.av l)),(3,.int .i64 i)]∧s=⟨[],0⟩∧∀j,j<i→okR l j) ?_ _ _ _ ⟨0,rfl,rfl,rfl,fun j h=>absurd h (by omega)⟩
 rintro _ _ _ ⟨i,rfl,rfl,rfl,hx⟩
 refine⟨rfl,?_⟩
 by_cases hlt:i<l.length
 ·have hr:=Aih (hok _ (List.getElem_mem hlt))
  by_cases h0:i=0
  ·subst h0
   (conv=>whnf);repeat' (first|((first|apply kE hr|refine kA ?_|(apply Br.mk<;>intro hc))<;>first|exact hc.elim|conv=>whnf)|refine kB ?_)
   all_goals first
        |exact again.mk ⟨_,by omega,1,rfl,rfl,rfl,fun j hj=>by
          obtain rfl:j=0:=by omega
          exact fun _=>⟨by omega,fun h=>absurd h (by omega)⟩⟩
        |exact Au fun h=>absurd (h.2 0 hlt hlt).1 (by omega)
        |omega
  ·have ho:=Agk (x:=l[i-1]'(by omega)) (y:=l[i])
   (conv=>whnf);repeat' (first|((first|apply kE hr|apply kE ho|(apply Af;(· exact nVz (i-1) (by omega) (by omega)))|refine kA ?_|(apply Br.mk<;>intro hc))<;>first|exact hc.elim|conv=>whnf)|refine kB ?_)
   all_goals first
        |exact again.mk ⟨_,by omega,i+1,rfl,rfl,rfl,fun j hj=>by
          rcases Nat.lt_or_ge j i with h|h
          ·exact hx j h
          ·obtain rfl:j=i:=by omega
           exact fun _=>⟨by omega,fun _=>by omega⟩⟩
        |exact Au fun h=>by have:=h.2 i hlt hlt;omega
        |omega
 ·(conv=>whnf);repeat' (first|((first|refine kA ?_|(apply Br.mk<;>intro hc))<;>first|exact hc.elim|conv=>whnf)|refine kB ?_)
  all_goals first
   |exact Bd ⟨by omega,fun j hj=>hx j (by omega)⟩
theorem AmZ {l:List GR} (h:Du l) {j:Nat} (h1:j+1<l.length):BX l[j] l[j+1]=true:=Nq.2 ((h.2 (j+1) h1 h1).2 (by omega))
theorem AeY {l:List GR} (h:Du l):l.Pairwise fun x y=>BX x y=true:=by
 rw[List.pairwise_iff_getElem]
 have:∀d i (hd:i+d+1<l.length),BX l[i] l[i+d+1]=true:=by
  intro d
  induction d with
  |zero=>exact fun i hd=>AmZ h hd
  |succ d ih=>exact fun i hd=>Es.trans _ _ _ (ih i (by omega)) (AmZ h (j:=i+d+1) hd)
 intro i j hi hj hij
 obtain⟨d,rfl⟩:∃d,j=i+d+1:=⟨j-i-1,by omega⟩
 exact this d i hj
structure AeZ (l:List GR) (x:GR) (z:Nat):Prop where
 le:z≤l.length
 lo:∀k (h:k<l.length),k<z→BX l[k] x=true
 hi:∀k (h:k<l.length),z≤k→BX l[k] x=false
theorem AeZ.mem {l:List GR} {x:GR} {z:Nat} (h:AeZ l x z) (hs:l.Pairwise fun x y=>BX x y=true):x∈l↔∃h:z<l.length,l[z]=x:=by
 constructor
 ·intro hx
  obtain⟨k,hk,e⟩:=List.getElem_of_mem hx
  have h1:¬k<z:=fun hlt=>by have:=h.lo k hk hlt;rw[e,Es.irrefl]at this;cases this
  have h2:¬z<k:=fun hlt=>by
   have a:=List.pairwise_iff_getElem.1 hs z k (by omega) hk hlt
   rw[e]at a
   have b:=h.hi z (by omega) (by omega)
   rw[a]at b;cases b
  obtain rfl:k=z:=by omega
  exact⟨hk,e⟩
 ·rintro⟨h1,e⟩
  rw[← e];exact List.getElem_mem h1
theorem bsR {l:List GR} {nn:Bool} {x:GR} (hl:l.length<2^61) (hs:l.Pairwise fun x y=>BX x y=true):Ae (Ad tab) 114 [.sl nn (vs GR.av l),x.av,.fn 56 []] (fun v=>∃(z:Nat) (b:Bool),v=.BD [.int .i64 z,.bool b]∧AeZ l x z∧(b=true↔x∈l)):=by
 refine Ac rfl rfl ?_
 (conv=>whnf);repeat' (first|((first|refine kA ?_|(apply Br.mk<;>intro hc))<;>first|exact hc.elim|conv=>whnf)|refine kB ?_)
 refine Ag (fun m env s=>∃(i j:Nat),m=j-i∧i≤j∧j≤l.length∧env=[(0,.sl nn (vs GR.av l)),(2,.fn 56 []),(4,.ref 0 0 0 0),(8,.int .i64 l.length),(9,.int .i64 i),(10,.int .i64 j)]∧s=⟨[.arr 0 6 true true [x.av]],1⟩∧
  (∀ k (h:k<l.length),k<i→BX l[k] x=true)∧(∀ k (h:k<l.length),j≤k→BX l[k] x=false)) ?_ _ _ _ ⟨0,l.length,rfl,by omega,by omega,by simp,rfl,fun k _ h=>absurd h (by omega),fun k h1 h=>absurd h (by omega)⟩
 rintro _ _ _ ⟨i,j,rfl,hij,hj,rfl,rfl,h1,h2⟩
 refine⟨rfl,?_⟩
 by_cases hlt:i<j
 ·have ho:=D6 (x:=l[(i+j) / 2]'(by omega)) (y:=x)
  (conv=>whnf);repeat' (first|((first|refine UQ (i+j) (by omega) (by omega) ?_|(apply Cb;(· exact Abr _))|apply kE ho|refine kA ?_|(apply Br.mk<;>intro hc))<;>first|exact hc.elim|conv=>whnf)|refine kB ?_)
  all_goals first
   |(have hm:=Nq.2 hc
     exact again.mk ⟨_,by omega,(i+j) / 2+1,j,rfl,by omega,hj,rfl,rfl,fun k hk hlt=>by
      rcases Nat.lt_or_ge k ((i+j) / 2)with h|h
      ·exact Es.trans _ _ _ (List.pairwise_iff_getElem.1 hs k ((i+j) / 2) hk (by omega) h) hm
      ·obtain rfl:k=(i+j) / 2:=by omega
       exact hm,h2⟩)
   |(have hm:BX (l[(i+j) / 2]'(by omega)) x=false:=Ov.2 (by omega)
     exact again.mk ⟨_,by omega,i,(i+j) / 2,rfl,by omega,by omega,rfl,rfl,h1,fun k hk hle=>by
      rcases Nat.lt_or_ge ((i+j) / 2) k with h|h
      ·have a:=List.pairwise_iff_getElem.1 hs ((i+j) / 2) k (by omega) hk h
       cases e:BX l[k] x with
       |false=>rfl
       |true=>rw[Es.trans _ _ _ a e]at hm;cases hm
      ·obtain rfl:k=(i+j) / 2:=by omega
       exact hm⟩)
 ·obtain rfl:i=j:=by omega
  have hp:AeZ l x i:=⟨hj,h1,fun k hk h=>h2 k hk h⟩
  by_cases hi:i<l.length
  ·have ho:=D6 (x:=l[i]) (y:=x)
   (conv=>whnf);repeat' (first|((first|apply kE ho|refine kA ?_|(apply Br.mk<;>intro hc))<;>first|exact hc.elim|conv=>whnf)|refine kB ?_)
   all_goals first
        |exact⟨_,_,rfl,hp,fun _=>(hp.mem hs).2 ⟨hi,Qs.1 hc⟩,fun _=>rfl⟩
        |exact⟨_,_,rfl,hp,fun h=>(Bool.noConfusion h),fun h=>absurd (Qs.2 ((hp.mem hs).1 h).2) hc⟩
  ·(conv=>whnf);repeat' (first|((first|refine kA ?_|(apply Br.mk<;>intro hc))<;>first|exact hc.elim|conv=>whnf)|refine kB ?_)
   all_goals first
        |exact⟨_,_,rfl,hp,fun h=>(Bool.noConfusion h),fun h=>absurd ((hp.mem hs).1 h).1 hi⟩
def tv (p:Prop) [Decidable p]:Int:=if p then 2 else 0
theorem Ait (p:Prop) [Decidable p]:0≤tv p∧tv p≤2:=by unfold tv;split<;>omega
theorem AdT {p q:Prop} [Decidable p] [Decidable q] (h:p↔q):tv p=tv q:=by
 unfold tv
 by_cases hp:p
 ·rw[if_pos hp,if_pos (h.1 hp)]
 ·rw[if_neg hp,if_neg (fun hq=>hp (h.2 hq))]
theorem tvT {p:Prop} [Decidable p] (h:p):AV.int .i64 2=.int .i64 (tv p):=by unfold tv;rw[if_pos h]
theorem tvF {p:Prop} [Decidable p] (h:¬p):AV.int .i64 0=.int .i64 (tv p):=by unfold tv;rw[if_neg h]
theorem AdU:Ae (Ad tab) 310 [.bool true] (· =.int .i64 2):=⟨_,⟨20,by kernel_rfl⟩,rfl⟩
theorem AdV:Ae (Ad tab) 310 [.bool false] (· =.int .i64 0):=⟨_,⟨20,by kernel_rfl⟩,rfl⟩
theorem Aot {a b c d:Int}:Uy (.flat [.int,.int]) (.agg [.int .i64 a,.int .i64 b]) (.agg [.int .i64 c,.int .i64 d])=some (decide (a=c∧b=d)):=by
 have e:∀z z':Int,(z==z')=decide (z=z'):=fun z z'=>by by_cases h:z=z'<;>simp[h]
 by_cases h1:a=c<;>by_cases h2:b=d<;>simp[Uy,Jg,Dh,e,h1,h2]
theorem Nv {a b:GV} (ha:a.ok) (hb:b.ok) (va:VV 8 a) (vb:VV 8 b) (hab:a.k=b.k→a.k≠7∧a.k≠8):
 ∃e:Int,(0≤e∧e≤2)∧Ae (Ad tab) 291 [a.av,b.av] (· =.int .i64 e)∧Ae (Ad tab) 222 [a.av,b.av] (· =.int .i64 e):=by
 have r1:=vR ha va
 have r2:=vR hb vb
 by_cases h0:a.k=0∨b.k=0
 ·refine⟨1,by omega,?_,?_⟩
  ·refine Ac rfl rfl ?_
   (conv=>whnf);repeat' (first|((first|refine kA ?_|(apply Br.mk<;>intro hc))<;>first|exact hc.elim|conv=>whnf)|refine kB ?_)
   all_goals first|rfl
  ·refine Ac rfl rfl ?_
   (conv=>whnf);repeat' (first|((first|refine kA ?_|(apply Br.mk<;>intro hc))<;>first|exact hc.elim|conv=>whnf)|refine kB ?_)
   all_goals first|rfl
 by_cases hn:JW a∧JW b
 ·refine⟨tv (a.n=b.n∧dn a=dn b),Ait _,?_,?_⟩
  ·have p1:=nP1 ha hn.1
   have p2:=nP1 hb hn.2
   refine Ac rfl rfl ?_
   (conv=>whnf);repeat' (first|((first|apply kE p1|apply kE p2|apply kE AdU|apply kE AdV|refine Aj (congrArg (Option.map AV.bool) Aot) ?_|refine kA ?_|(apply Br.mk<;>intro hc))<;>first|exact hc.elim|conv=>whnf)|refine kB ?_)
   all_goals first|exact tvT (of_decide_eq_true ‹_›)|exact tvF (of_decide_eq_false ‹_›)
  ·have p1:=nR1 ha hn.1
   have p2:=nR1 hb hn.2
   have p3:=Amu (RG hn.1) (RG hn.2)
   have hf:=AdW (RG hn.1) (RG hn.2)
   refine Ac rfl rfl ?_
   (conv=>whnf);repeat' (first|((first|apply kE p1|apply kE p2|apply kE p3|apply kE r1|apply kE r2|apply kE AjU|apply kE AdX|refine kA ?_|(apply Br.mk<;>intro hc))<;>first|exact hc.elim|conv=>whnf)|refine kB ?_)
   all_goals first|exact tvT (hf.1 ‹_›)|exact tvF (fun h=>absurd (hf.2 h) ‹_›)
 by_cases hk:a.k=b.k
 ·obtain⟨h7,h8⟩:=hab hk
  have n1:¬JW a:=fun h=>hn ⟨h,vb,by have:=h.2;omega⟩
  have n2:¬JW b:=fun h=>hn ⟨⟨va,by have:=h.2;omega⟩,h⟩
  have h23:a.k≠2∧a.k≠3:=⟨fun h=>n1 ⟨va,.inl h⟩,fun h=>n1 ⟨va,.inr h⟩⟩
  obtain⟨ka1,ka2⟩:=Aiu va h7 h8
  obtain⟨kb1,kb2⟩:=Aiu vb (by omega) (by omega)
  refine⟨tv (a.n=b.n∧a.s=b.s),Ait _,?_,?_⟩
  ·have p1:=nP0 ha n1
   have p2:=nP0 hb n2
   refine Ac rfl rfl ?_
   (conv=>whnf);repeat' (first|((first|apply kE p1|apply kE p2|apply kE AdU|apply kE AdV|refine kA ?_|(apply Br.mk<;>intro hc))<;>first|exact hc.elim|conv=>whnf)|refine kB ?_)
   all_goals first|exact tvT ⟨by assumption,by assumption⟩|exact tvF (fun h=>absurd h.1 ‹_›)|exact tvF (fun h=>absurd h.2 ‹_›)
  ·have p1:=nR0 ha n1
   have p2:=nR0 hb n2
   by_cases h4:a.k=4
   ·rw[AdT (q:=a.s=b.s) ⟨fun h=>h.2,fun h=>⟨by rw[ka1 h4,kb1 (by omega)],h⟩⟩]
    refine Ac rfl rfl ?_
    (conv=>whnf);repeat' (first|((first|apply kE p1|apply kE p2|apply kE r1|apply kE r2|apply kE AjU|apply kE AdX|refine kA ?_|(apply Br.mk<;>intro hc))<;>first|exact hc.elim|conv=>whnf)|refine kB ?_)
    all_goals first|exact tvT ‹_› |exact tvF ‹_›
   ·rw[AdT (q:=a.n=b.n) ⟨fun h=>h.1,fun h=>⟨h,by rw[ka2 h4,kb2 (by omega)]⟩⟩]
    refine Ac rfl rfl ?_
    (conv=>whnf);repeat' (first|((first|apply kE p1|apply kE p2|apply kE r1|apply kE r2|apply kE AjU|apply kE AdX|refine kA ?_|(apply Br.mk<;>intro hc))<;>first|exact hc.elim|conv=>whnf)|refine kB ?_)
    all_goals first|exact tvT ‹_› |exact tvF ‹_›
 ·refine⟨0,by omega,?_,?_⟩
  ·obtain⟨x1,y1,b1,e1,p1⟩:∃x y t,(JW a↔t=true)∧Ae (Ad tab) 236 [a.av] (· =.BD [.agg [.int .i64 x,.int .i64 y],.bool t]):=by
        by_cases h:JW a
        ·exact⟨_,_,true,by simp[h],nP1 ha h⟩
        ·exact⟨_,_,false,by simp[h],nP0 ha h⟩
   obtain⟨x2,y2,b2,e2,p2⟩:∃x y t,(JW b↔t=true)∧Ae (Ad tab) 236 [b.av] (· =.BD [.agg [.int .i64 x,.int .i64 y],.bool t]):=by
        by_cases h:JW b
        ·exact⟨_,_,true,by simp[h],nP1 hb h⟩
        ·exact⟨_,_,false,by simp[h],nP0 hb h⟩
   rw[e1,e2]at hn
   cases b1<;>cases b2<;>(try exact absurd ⟨rfl,rfl⟩ hn)
   all_goals
        refine Ac rfl rfl ?_
        (conv=>whnf);repeat' (first|((first|apply kE p1|apply kE p2|refine kA ?_|(apply Br.mk<;>intro hc))<;>first|exact hc.elim|conv=>whnf)|refine kB ?_)
        all_goals first|rfl
  ·obtain⟨x1,y1,b1,e1,p1⟩:∃x y t,(JW a↔t=true)∧Ae (Ad tab) 95 [a.av] (· =.BD [.agg [.int .i64 x,.int .i64 y],.bool t]):=by
        by_cases h:JW a
        ·exact⟨_,_,true,by simp[h],nR1 ha h⟩
        ·exact⟨_,_,false,by simp[h],nR0 ha h⟩
   obtain⟨x2,y2,b2,e2,p2⟩:∃x y t,(JW b↔t=true)∧Ae (Ad tab) 95 [b.av] (· =.BD [.agg [.int .i64 x,.int .i64 y],.bool t]):=by
        by_cases h:JW b
        ·exact⟨_,_,true,by simp[h],nR1 hb h⟩
        ·exact⟨_,_,false,by simp[h],nR0 hb h⟩
   rw[e1,e2]at hn
   cases b1<;>cases b2<;>(try exact absurd ⟨rfl,rfl⟩ hn)
   all_goals
        refine Ac rfl rfl ?_
        (conv=>whnf);repeat' (first|((first|apply kE p1|apply kE p2|apply kE r1|apply kE r2|refine kA ?_|(apply Br.mk<;>intro hc))<;>first|exact hc.elim|conv=>whnf)|refine kB ?_)
        all_goals first|rfl
theorem EqualF {a b:GV} (ha:a.ok) (hb:b.ok) (la:Dx a) (lb:Dx b):∃e:Int,Ae (Ad tab) 263 [a.av,b.av] (· =.int .i64 e)∧Ae (Ad tab) 222 [a.av,b.av] (· =.int .i64 e):=by
 have ka:=QD la
 have kb:=QD lb
 unfold IG at ka kb
 obtain⟨e,_,h2,h3⟩:=Nv ha hb (AgR la) (AgR lb) fun _=>⟨by omega,by omega⟩
 have p1:=vP ha (AgR la)
 have p2:=vP hb (AgR lb)
 refine⟨e,?_,h3⟩
 refine Ac rfl rfl ?_
 (conv=>whnf);repeat' (first|((first|apply kE p1|apply kE p2|apply kE h2|refine kA ?_|(apply Br.mk<;>intro hc))<;>first|exact hc.elim|conv=>whnf)|refine kB ?_)
 all_goals first|rfl|omega
end AI
end Go.Proofs.YtjijnamhalgamaaGreatDoor
