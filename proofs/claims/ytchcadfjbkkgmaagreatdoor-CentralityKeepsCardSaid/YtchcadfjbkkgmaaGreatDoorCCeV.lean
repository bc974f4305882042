/- The law CentralityKeeps, about the evaluator. -/
import Derived.Test.YtchcadfjbkkgmaaGreatDoorCMau
set_option linter.unusedVariables false
set_option maxRecDepth 4000
namespace Go.Proofs.YtchcadfjbkkgmaaGreatDoor
namespace AI
theorem Aa5 {v:GV} (hv:v.ok) (h:D9 v):KJ 12 v.av:=by
 refine⟨v,rfl,hv,?_,by have:=h.2.1;omega,fun x hx=>?_⟩
 ·by_cases hk:v.k=4
  ·have:=(ZT h hk).2.1;omega
  ·rw[AdV h hk];simp
 ·rw[List.eq_nil_of_length_eq_zero h.2.1]at hx;cases hx
theorem Adm {g:GG} (hg:g.ok) (h:AB g=0):∀e∈g.edges,Rk e:=fun e he=>by
 have hc:=AeC h
 have v:=hc.vg.e e he
 obtain⟨o1,o2,o3,o4,o5,o6,o7⟩:=hg.2.2.2.2.2.1 e he
 have:=v.a.lP
 exact⟨o6,by omega,fun p hp=>⟨o7 p hp,Aa5 (o7 p hp).2 (v.pl p hp)⟩⟩
theorem Ao1 {L:List GC} {nn:Bool} (hL:Ln L) (hc:∀c∈L,c.ok):Af (Ad tab) 24 [.sl nn (vs GC.av L),.int .i64 10] (fun v=>∃b,v=.bool b∧(b=true→L.length≤10)):=by
 unfold Ln at hL
 refine Ac rfl rfl ?_
 (conv=>whnf);repeat' (first  |(refine kA ?_;conv=>whnf)|(refine Br.mk (fun hc=>?_) fun hc=>?_<;>first|exact hc.elim|conv=>whnf)|(refine kB ?_))
 all_goals first|exact⟨_,rfl,fun h=>Bool.noConfusion h⟩|skip
 refine Ap (fun m env s=>∃(i:Nat) (left:Int),m=L.length-i∧-368934881474191048≤left∧left≤2000∧env=[(0,.sl nn (vs GC.av L)),(1,.int .i64 10),(5,.int .i64 left),(6,.int .i64 i)]∧s=⟨[],0⟩) ?_ _ _ _ ⟨0,_,rfl,by omega,by omega,rfl,rfl⟩
 rintro _ _ _ ⟨i,left,rfl,h1,h2,rfl,rfl⟩
 refine⟨rfl,?_⟩
 by_cases hlt:i<L.length
 ·have hci:=hc _ (List.getElem_mem hlt)
  have hk:(L[i]).name.length<2^63:=hci.2.2.2.2.1
  (conv=>whnf);repeat' (first|(refine TW hk ?_;conv=>whnf)|(have hwr:=hk;apply DC;(· exact wrap_i64 (by omega) (by omega));clear hwr;conv=>whnf)|(refine Aa (wei 12 (by omega) hci.2.2.2.2.2 (by omega) (by omega)) ?_;rintro _ ⟨r,rfl,r1,r2,r3⟩;conv=>whnf)|(refine kA ?_;conv=>whnf)|(refine Br.mk (fun hc=>?_) fun hc=>?_<;>first|exact hc.elim|conv=>whnf)|(refine kB ?_))
  all_goals first
   |exact again.mk ⟨_,by omega,i+1,_,rfl,by omega,by omega,rfl,rfl⟩
   |exact⟨_,rfl,fun h=>by omega⟩
   |exact⟨_,rfl,fun h=>Bool.noConfusion h⟩
 ·(conv=>whnf);repeat' (first  |(refine kA ?_;conv=>whnf)|(refine Br.mk (fun hc=>?_) fun hc=>?_<;>first|exact hc.elim|conv=>whnf)|(refine kB ?_))
  all_goals first
   |exact⟨_,rfl,fun h=>by omega⟩
   |exact⟨_,rfl,fun h=>Bool.noConfusion h⟩
set_option maxRecDepth 10000 in
set_option maxHeartbeats 4000000 in
theorem AcM:∀xs,likes Tryz.prog [25,26,63] xs→A8 (Ad Oh) 6 xs ⟨[],0⟩ fun out _=>out=.ok (.bool true):=by
 intro xs h
 match xs,h with
 |[x,y,z],h=>
  obtain⟨h1,h2,h3,_⟩:=h
  obtain⟨g,rfl,hg⟩:=U3 h1
  obtain⟨tn,types,rfl,ht⟩:=TG h2
  obtain⟨nn,L,rfl,hL,hok⟩:=XH h3
  obtain⟨_,⟨bs,rfl,hs⟩,p0⟩:=((small hg (n:=10) (e:=16)).up Oi).JF
  obtain⟨_,⟨bf,rfl,hf⟩,pf⟩:=((Ao1 (nn:=nn) hL hok).up Oi).JF
  have pk:=(Aa6 hg).up Oi
  unfold Ln at hL
  refine Ar rfl rfl ?_
  cases bs with
  |false=>
   (conv=>whnf);repeat' (first|((first|refine Aa Jf ?_|refine Aa p0 ?_);rintro _ rfl;conv=>whnf)|(refine kA ?_;conv=>whnf)|(refine Br.mk (fun hc=>?_) fun hc=>?_<;>first|exact hc.elim|conv=>whnf)|(refine kB ?_))
   all_goals first|rfl
  |true=>
   by_cases h8:types.length>8
   ·(conv=>whnf);repeat' (first|((first|refine Aa Jf ?_|refine Aa p0 ?_);rintro _ rfl;conv=>whnf)|(refine kA ?_;conv=>whnf)|(refine Br.mk (fun hc=>?_) fun hc=>?_<;>first|exact hc.elim|conv=>whnf)|(refine kB ?_))
    all_goals first|rfl|(exfalso;omega)
   cases bf with
   |false=>
    (conv=>whnf);repeat' (first|((first|refine Aa Jf ?_|refine Aa p0 ?_|refine Aa pf ?_);rintro _ rfl;conv=>whnf)|(refine kA ?_;conv=>whnf)|(refine Br.mk (fun hc=>?_) fun hc=>?_<;>first|exact hc.elim|conv=>whnf)|(refine kB ?_))
    all_goals first|rfl|(exfalso;omega)
   |true=>
    have Ard:=hf rfl
    have hN:=(hs rfl).1
    have hE:=(hs rfl).2.1
    by_cases hck:AB g=0
    case neg=>
     generalize AB g=e0 at pk hck
     (conv=>whnf);repeat' (first|((first|refine Aa Jf ?_|refine Aa p0 ?_|refine Aa pf ?_|refine Aa pk ?_);rintro _ rfl;conv=>whnf)|(refine kA ?_;conv=>whnf)|(refine Br.mk (fun hc=>?_) fun hc=>?_<;>first|exact hc.elim|conv=>whnf)|(refine kB ?_))
     all_goals first|rfl|(exfalso;omega)
    rw[hck]at pk
    obtain⟨bt,hbt,pt⟩:=Z8 (tn:=tn) hg (by omega) (by omega) (types:=types) (by omega)
    (conv=>whnf);repeat' (first|((first|refine Aa Jf ?_|refine Aa p0 ?_|refine Aa pf ?_|refine Aa pk ?_|refine Aa pt ?_);rintro _ rfl;conv=>whnf)|(refine kA ?_;conv=>whnf)|(refine Br.mk (fun hc=>?_) fun hc=>?_<;>first|exact hc.elim|conv=>whnf)|(refine kB ?_))
    all_goals first|(exfalso;omega)|skip
    refine Ap (fun m env s=>∃(i c:Nat) (σ:List Obj) (h:GG) (b:Bool),m=L.length-i∧i≤L.length∧h.ok∧AB h=0∧h.nodes.length≤10+i∧h.edges.length≤16+i∧(b=false→JE types h=[])∧nth σ 0=some (.arr 0 4 true true [h.av])∧env=[(1,.sl tn (vs .str types)),(3,.ref 0 0 0 0),(7,.sl b (vs pv (JE types h))),(36,.sl nn (vs GC.av L)),(37,.int .i64 L.length),(38,.int .i64 i)]∧s=⟨σ,c⟩) ?_ _ _ _ ⟨0,_,_,g,bt,rfl,by omega,hg,hck,by omega,by omega,hbt,rfl,rfl,rfl⟩
    clear pt hbt pk hck p0 pf hs hf hg hN hE
    rintro _ _ _ ⟨i,c,σ,h,b,rfl,hi,ho,hck,hN,hE,hb,h0,rfl,rfl⟩
    refine⟨rfl,?_⟩
    have htl:∀g:GG,g.nodes.length≤100→(JE types g).length<2^40:=fun g h=>by
     unfold JE
     split
     ·unfold Ik;rw[List.length_map];omega
     ·simp
    have hls:=BH h0
    by_cases hlt:i<L.length
    case neg=>
     obtain⟨b4,p4⟩:=rtG (tn:=tn) ho (by omega) (types:=types) (by omega)
     have p5:=(AbD (b1:=b) (b2:=b4) (htl h (by omega)) (htl h (by omega))).up Oi
     rw[decide_eq_true rfl]at p5
     replace p4:=p4.up Oi
     (conv=>whnf);repeat' (first|(rw [h0];conv=>whnf)|((first|refine Aa Jf ?_|refine Aa p4 ?_|refine Aa p5 ?_);rintro _ rfl;conv=>whnf)|(refine kA ?_;conv=>whnf)|(refine Br.mk (fun hc=>?_) fun hc=>?_<;>first|exact hc.elim|conv=>whnf)|(refine kB ?_))
     all_goals first|rfl|(exfalso;omega)
    have hci:=hok _ (List.getElem_mem hlt)
    have hgE:=Adm ho hck
    have hA:=TK (g:=h) (c:=L[i])
    obtain⟨_,⟨b1,hb1,rfl⟩,pu⟩:=(AbX ho hci (by omega) (by omega) hgE (types:=types) (tn:=tn) (by omega) (l:=JE types h) (ln:=b) (htl h (by omega)) hb ⟨VP ho hci,by omega,by omega⟩).JF
    obtain⟨_,⟨h2,rfl,hn2,ho2⟩,pa⟩:=((AeJ ho hci (by omega) (by omega)).up Oi).JF
    have hE2:Sm (JE types h) h types L[i]=(Ak h L[i]).2:=by unfold Sm;rw[if_neg (not_not_intro rfl)]
    rw[hE2]at pu
    by_cases h00:(Ak h L[i]).2=0
    ·have Ao2:AB h2=0:=(KP hn2).trans (CS h00)
     have hU:J4 (JE types h) h types L[i]=JE types h2:=by
      rw[AbC hn2]
      unfold J4
      rw[if_neg (not_not_intro rfl),if_neg (not_not_intro h00)]
      have:JE types (Ak h L[i]).1=Ik types (Ak h L[i]).1:=if_pos (CS h00)
      rw[this]
     have hl1:h2.nodes.length=(Ak h L[i]).1.nodes.length:=by
      have:=congrArg (fun g=>g.nodes.length) hn2
      simpa only[G5,List.length_map]using this
     have hl2:h2.edges.length=(Ak h L[i]).1.edges.length:=by
      have:=congrArg (fun g=>g.edges.length) hn2
      simpa only[G5,List.length_map]using this
     rw[hU]at pu hb1
     rw[h00]at pu pa
     clear hU hn2 h00 hE2
     generalize (Ak h L[i]).1=k at hl1 hl2 hA
     (conv=>whnf);repeat' (first|(refine Qw fun σ3 f3 k3 l3=>?_;have h03:=f3.get h02 (by simp);conv=>whnf)|(refine Qw fun σ1 f1 k1 l1=>?_;have h01:=f1.get h0 (by simp);conv=>whnf)|(rw [k1];conv=>whnf)|(refine Sz k1 fun σ2 f2 k2 l2=>?_;have h02:=f2.get h01 (by simp;omega);conv=>whnf)|(rw [h02];conv=>whnf)|(rw [k2];conv=>whnf)|(rw [k3];conv=>whnf)|(refine Sz k3 fun σ4 f4 k4 l4=>?_;have h04:=f4.get h03 (by simp;have:=BH h02;omega);conv=>whnf)|(rw [k4];conv=>whnf)|(rw [h04];conv=>whnf)|(refine Sz h04 fun σ5 f5 h05 l5=>?_;conv=>whnf)|((first|refine Aa pu ?_|refine Aa pa ?_);rintro _ rfl;conv=>whnf)|(refine kA ?_;conv=>whnf)|(refine Br.mk (fun hc=>?_) fun hc=>?_<;>first|exact hc.elim|conv=>whnf)|(refine kB ?_))
     all_goals first
      |(exfalso;omega)
      |exact again.mk ⟨_,by omega,i+1,_,σ5,h2,b1,rfl,by omega,ho2,Ao2,by omega,by omega,hb1,h05,rfl,rfl⟩
    ·have hU:J4 (JE types h) h types L[i]=[]:=by
      unfold J4
      rw[if_neg (not_not_intro rfl),if_pos h00]
     rw[hU]at pu
     generalize (Ak h L[i]).2=e at pu pa h00
     (conv=>whnf);repeat' (first|(refine Qw fun σ3 f3 k3 l3=>?_;have h03:=f3.get h02 (by simp);conv=>whnf)|(refine Qw fun σ1 f1 k1 l1=>?_;have h01:=f1.get h0 (by simp);conv=>whnf)|(rw [k1];conv=>whnf)|(refine Sz k1 fun σ2 f2 k2 l2=>?_;have h02:=f2.get h01 (by simp;omega);conv=>whnf)|(rw [h02];conv=>whnf)|(rw [k2];conv=>whnf)|(rw [k3];conv=>whnf)|(refine Sz k3 fun σ4 f4 k4 l4=>?_;have h04:=f4.get h03 (by simp;have:=BH h02;omega);conv=>whnf)|((first|refine Aa pu ?_|refine Aa pa ?_|refine Aa Jf ?_);rintro _ rfl;conv=>whnf)|(refine kA ?_;conv=>whnf)|(refine Br.mk (fun hc=>?_) fun hc=>?_<;>first|exact hc.elim|conv=>whnf)|(refine kB ?_))
     all_goals first|rfl|(exfalso;omega)|(exact absurd rfl (by assumption))
end AI
end Go.Proofs.YtchcadfjbkkgmaaGreatDoor
