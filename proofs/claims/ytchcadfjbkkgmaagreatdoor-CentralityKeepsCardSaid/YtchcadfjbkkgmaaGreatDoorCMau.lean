/- Update of the program: a change with ends. Update of the program, whole. Update of the reference. The worked example. Changes as data; the ids that changes name: plain. The worked example; what the centrality laws ask. -/
import Derived.Test.YtchcadfjbkkgmaaGreatDoorCMat
import Derived.Test.YtchcadfjbkkgmaaGreatDoorCMaj
import Derived.Test.YtchcadfjbkkgmaaGreatDoorCMah
import Derived.Test.YtchcadfjbkkgmaaGreatDoorCMae
import Derived.Test.YtchcadfjbkkgmaaGreatDoorCMag
set_option linter.unusedVariables false
set_option maxRecDepth 4000
namespace Go.Proofs.YtchcadfjbkkgmaaGreatDoor
namespace AI
theorem Ad8 {types:List (List UInt8)} {h:GG} {a b:Int}:(LK types h a b).Pairwise (· <·):=by
 have h1:(LK types h a b).Pairwise (·≤·):=Pz _
 have h2:(LK types h a b).Nodup:=(EW _).nodup_iff.2 (by
  unfold ER
  exact(Pv.nd).sublist ((List.filter_sublist).map _))
 exact(h1.and h2).imp fun⟨x,y⟩=>by omega
set_option maxHeartbeats 16000000 in
theorem AgH {g:GG} {c:GC} (hg:g.ok) (hc:c.ok) (hN:g.nodes.length≤100) (hE:g.edges.length≤100) (hgood:∀n∈g.edges,Rk n) {types:List (List UInt8)} (ht:types.length<2^40) {tn ln:Bool} {l:List (Int×Int)} (hln:ln=false→l=[])
 (hh:(Ak g c).1.ok∧(Ak g c).1.nodes.length≤200∧(Ak g c).1.edges.length≤200) (h1:l=JE types g) (h0:(Ak g c).2=0) (o1:c.op≠1) (o2:c.op≠2) (hn:MG types g c):
 Af (Ad Oh) 18 [.sl ln (vs pv l),g.av,.sl tn (vs .str types),c.av] (fun v=>∃b,(b=false→J4 l g types c=[])∧v=.Cb [.sl b (vs pv (J4 l g types c)),.int .i64 (Sm l g types c)]):=by
 have hck:=(Ie h0).1
 have Ajn:=CS h0
 obtain⟨b0,_,p1⟩:=Z8 (tn:=tn) hg (by omega) (by omega) (types:=types) (by omega)
 have hl1:l=Ik types g:=by rw[h1];unfold JE;rw[if_pos hck]
 have hll:l.length≤100:=by rw[hl1];unfold Ik;rw[List.length_map];exact hN
 have p2:=(Ad9 (b1:=ln) (b2:=b0) (l:=l) (m:=JE types g) (by omega) (by rw[← h1];omega)).up Oi
 rw[decide_eq_true h1]at p2
 have p3:=(Z9 hg hc).up Oi
 have p5:=(AiC (tn:=tn) (c:=c) (types:=types) (by omega:g.edges.length<2^63) hgood (Abr h0) (by omega)).up Oi
 rw[decide_eq_true hn]at p5
 have p6:=(OH (tn:=tn) (types:=types) hg (by omega) (by omega) hck (by omega)).up Oi
 have p7:=(OH (tn:=tn) (types:=types) hh.1 (by omega) (by omega) Ajn (by omega)).up Oi
 rw[AiD]at p6 p7
 obtain⟨ha,hb,Aea,hW⟩:=AgI h0 hn
 have ga:=MH (types:=types) hck ha
 have ka:=MH (types:=types) Ajn (Aea▸ha)
 have kb:=MH (types:=types) Ajn (Aea▸hb)
 have hlA:(JD types (Ak g c).1.edges (BM g c).fr).length≤1000:=Nat.le_trans (QN (n:=0) (fun _=>Nat.le_refl _)) (by omega)
 have pC:=(Alm (q:=⟨MI types (Ak g c).1,(BM g c).fr,(BM g c).to,JD types (Ak g c).1.edges (BM g c).fr,JD types (Ak g c).1.edges (BM g c).to⟩) ⟨ka,kb,Nat.le_trans hlA (by omega)⟩).up upT
 have gb:=Aeb (types:=types) (es:=g.edges) (v:=(BM g c).fr) (x:=(BM g c).to)
 have kab:=Aeb (types:=types) (es:=(Ak g c).1.edges) (v:=(BM g c).fr) (x:=(BM g c).to)
 have hinc:=Ad8 (types:=types) (h:=(Ak g c).1) (a:=(BM g c).fr) (b:=(BM g c).to)
 have hwl:(LK types (Ak g c).1 (BM g c).fr (BM g c).to).length≤1000:=by
  unfold LK
  rw[(EW _).length_eq]
  exact Nat.le_trans NP hlA
 unfold J4 Sm
 rw[if_neg (not_not_intro h1),if_neg (not_not_intro h1),if_neg (not_not_intro h0),hW,←hl1,h0]
 rw[h0]at p3
 unfold CQ.out at pC
 dsimp only at pC
 rw[show Hw (ER (JD types (Ak g c).1.edges (BM g c).fr) (JD types (Ak g c).1.edges (BM g c).to))=LK types (Ak g c).1 (BM g c).fr (BM g c).to from rfl]at pC
 generalize LK types (Ak g c).1 (BM g c).fr (BM g c).to=C at pC hinc hwl ⊢
 generalize G8 types g.edges (BM g c).fr (BM g c).to=x at gb ⊢
 generalize G8 types (Ak g c).1.edges (BM g c).fr (BM g c).to=y at kab ⊢
 have AnT:ln=true:=by
  cases ln
  ·exfalso
   have:=hln rfl
   rw[hl1]at this
   unfold Ik at this
   have h2:=List.map_eq_nil_iff.1 this
   unfold Dc at ha
   rw[h2]at ha
   cases ha
  ·rfl
 subst AnT
 have pc:=(Yd (l:=l) (by omega)).up Oi
 have hval:∀p∈l,0≤p.2∧p.2≤1000000:=fun p hp=>by
  rw[hl1]at hp
  unfold Ik at hp
  obtain⟨n,_,rfl⟩:=List.mem_map.1 hp
  have hlB:∀v,(JD types g.edges v).length≤1000:=fun v=>Nat.le_trans (QN (n:=0) (fun _=>Nat.le_refl _)) (by omega)
  have q1:=SH (f:=LU types g n.id) (b:=1000) (fun x=>Nat.le_trans NP (hlB _)) (L:=JD types g.edges n.id)
  have q2:=Nat.mul_le_mul_right 1000 (hlB n.id)
  show 0≤((ZL types g n.id / 2:Nat):Int)∧((ZL types g n.id / 2:Nat):Int)≤1000000
  unfold ZL
  omega
 cases x<;>cases y
 all_goals (
  simp only[Bool.false_eq_true,if_false,if_true]at gb kab
  refine Ac rfl rfl ?_
  (conv=>whnf);repeat' (first|((first|refine Aa p1 ?_|refine Aa p2 ?_|refine Aa p3 ?_|refine Aa p5 ?_);rintro _ rfl;conv=>whnf)|(refine Aec rfl pc ?_;conv=>whnf)|((first|refine Aa p6 ?_|refine Aa p7 ?_|refine Aa pC ?_);rintro _ rfl;conv=>whnf)|(refine fkM ga (fun _=>?_);conv=>whnf)|(refine fkM ka (fun _=>?_);conv=>whnf)|(refine fkN gb ?_;conv=>whnf)|(refine fkS gb (fun _=>?_);conv=>whnf)|(refine fkN kab ?_;conv=>whnf)|(refine fkS kab (fun _=>?_);conv=>whnf)|(refine kA ?_;conv=>whnf)|(refine Br.mk (fun hc=>?_) fun hc=>?_<;>first|exact hc.elim|conv=>whnf)|(refine kB ?_)))
 ·rw[show Aed false false=0 from rfl]
  generalize (BM g c).fr=a at*
  generalize (BM g c).to=b at*
  rw[lV]
  refine Ap (fun m env st=>∃(i c' gg:Nat) (o0 o1 o2:Obj) (bC:Bool) (W:List (Int×Int)),m=l.length-i∧Half (stepT a b C (0)) l W i∧env=[(12,.own 3 gg 0 l.length),(13,.int .i64 a),(14,.int .i64 b),(18,.int .i64 (0)),(19,.sl bC (vs (.int .i64) C)),(101,.int .i64 l.length),(102,.int .i64 i)]∧st=⟨[o0,o1,o2,.arr gg 2 true true (vs pv W)],c'⟩) ?_ _ _ _ ⟨0,_,_,_,_,_,_,_,rfl,Half.start _ _,rfl,rfl⟩
  rintro _ _ _ ⟨i,c',gg,o0,o1,o2,bC,W,rfl,hW,rfl,rfl⟩
  refine⟨rfl,?_⟩
  have hWl:=hW.len
  by_cases hlt:i<l.length
  ·have hv:=hval _ (List.getElem_mem hlt)
   have hx:=hW.at hlt
   have n1:nth (vs pv W) (Int.toNat (Nat.cast i))=some (pv (l[i])):=by rw[← hx];exact nVN (by omega)
   obtain⟨_,⟨q,rfl⟩,pB⟩:=((bsC (nn:=bC) (x:=(l[i]).1) (by omega) hinc).up Oi).JF
   have hp:=hW.put hlt
   unfold stepT at hp
   by_cases ea:(l[i]).1=a∨(l[i]).1=b
   ·rw[if_pos ea]at hp
    (conv=>whnf);repeat' (first|(apply Ah;(· exact n1);conv=>whnf)|(refine tPv ?_;conv=>whnf)|(refine Aa pB ?_;rintro _ rfl;conv=>whnf)|(refine kA ?_;conv=>whnf)|(refine Br.mk (fun hc=>?_) fun hc=>?_<;>first|exact hc.elim|conv=>whnf)|(refine kB ?_))
    all_goals first
     |(exfalso;omega)
     |exact again.mk ⟨_,by omega,i+1,_,_,_,_,_,_,_,rfl,hp,rfl,rfl⟩
   ·rw[if_neg ea]at hp
    by_cases eC:(l[i]).1∈C
    ·rw[if_pos eC]at hp
     rw[decide_eq_true eC]at pB
     (conv=>whnf);repeat' (first|(apply Ah;(· exact n1);conv=>whnf)|(refine tPv ?_;conv=>whnf)|(refine Aa pB ?_;rintro _ rfl;conv=>whnf)|(refine kA ?_;conv=>whnf)|(refine Br.mk (fun hc=>?_) fun hc=>?_<;>first|exact hc.elim|conv=>whnf)|(refine kB ?_))
     all_goals first
       |(exfalso;omega)
       |exact again.mk ⟨_,by omega,i+1,_,_,_,_,_,_,_,rfl,hp,rfl,rfl⟩
    ·have hsk:=hW.skip hlt (by unfold stepT;rw[if_neg ea,if_neg eC])
     rw[decide_eq_false eC]at pB
     (conv=>whnf);repeat' (first|(apply Ah;(· exact n1);conv=>whnf)|(refine tPv ?_;conv=>whnf)|(refine Aa pB ?_;rintro _ rfl;conv=>whnf)|(refine kA ?_;conv=>whnf)|(refine Br.mk (fun hc=>?_) fun hc=>?_<;>first|exact hc.elim|conv=>whnf)|(refine kB ?_))
     all_goals first
       |(exfalso;omega)
       |exact again.mk ⟨_,by omega,i+1,_,_,_,_,_,_,_,rfl,hsk,rfl,rfl⟩
  ·have he:=hW.all hlt
   have VH:sub (vs pv W) 0 l.length=vs pv W:=by
     have:sub (vs pv W) 0 W.length=vs pv W:=uV
     rwa [hWl]at this
   (conv=>whnf);repeat' (first|(refine FD ⟨rfl,by rw[lV];omega⟩ ?_;conv=>whnf)|(refine CB VH ?_;conv=>whnf)|(refine kA ?_;conv=>whnf)|(refine Br.mk (fun hc=>?_) fun hc=>?_<;>first|exact hc.elim|conv=>whnf)|(refine kB ?_))
   all_goals first
     |(exfalso;omega)
     |(refine ⟨true,fun h=>Bool.noConfusion h,?_⟩;rw[← he,VH];rfl)
     |(refine ⟨true,fun h=>Bool.noConfusion h,?_⟩;rw[← he];rfl)
 ·rw[show Aed false true=1 from rfl]
  generalize (BM g c).fr=a at*
  generalize (BM g c).to=b at*
  rw[lV]
  refine Ap (fun m env st=>∃(i c' gg:Nat) (o0 o1 o2:Obj) (bC:Bool) (W:List (Int×Int)),m=l.length-i∧Half (stepT a b C (1)) l W i∧env=[(12,.own 3 gg 0 l.length),(13,.int .i64 a),(14,.int .i64 b),(18,.int .i64 (1)),(19,.sl bC (vs (.int .i64) C)),(101,.int .i64 l.length),(102,.int .i64 i)]∧st=⟨[o0,o1,o2,.arr gg 2 true true (vs pv W)],c'⟩) ?_ _ _ _ ⟨0,_,_,_,_,_,_,_,rfl,Half.start _ _,rfl,rfl⟩
  rintro _ _ _ ⟨i,c',gg,o0,o1,o2,bC,W,rfl,hW,rfl,rfl⟩
  refine⟨rfl,?_⟩
  have hWl:=hW.len
  by_cases hlt:i<l.length
  ·have hv:=hval _ (List.getElem_mem hlt)
   have hx:=hW.at hlt
   have n1:nth (vs pv W) (Int.toNat (Nat.cast i))=some (pv (l[i])):=by rw[← hx];exact nVN (by omega)
   obtain⟨_,⟨q,rfl⟩,pB⟩:=((bsC (nn:=bC) (x:=(l[i]).1) (by omega) hinc).up Oi).JF
   have hp:=hW.put hlt
   unfold stepT at hp
   by_cases ea:(l[i]).1=a∨(l[i]).1=b
   ·rw[if_pos ea]at hp
    (conv=>whnf);repeat' (first|(apply Ah;(· exact n1);conv=>whnf)|(refine tPv ?_;conv=>whnf)|(refine Aa pB ?_;rintro _ rfl;conv=>whnf)|(refine kA ?_;conv=>whnf)|(refine Br.mk (fun hc=>?_) fun hc=>?_<;>first|exact hc.elim|conv=>whnf)|(refine kB ?_))
    all_goals first
     |(exfalso;omega)
     |exact again.mk ⟨_,by omega,i+1,_,_,_,_,_,_,_,rfl,hp,rfl,rfl⟩
   ·rw[if_neg ea]at hp
    by_cases eC:(l[i]).1∈C
    ·rw[if_pos eC]at hp
     rw[decide_eq_true eC]at pB
     (conv=>whnf);repeat' (first|(apply Ah;(· exact n1);conv=>whnf)|(refine tPv ?_;conv=>whnf)|(refine Aa pB ?_;rintro _ rfl;conv=>whnf)|(refine kA ?_;conv=>whnf)|(refine Br.mk (fun hc=>?_) fun hc=>?_<;>first|exact hc.elim|conv=>whnf)|(refine kB ?_))
     all_goals first
       |(exfalso;omega)
       |exact again.mk ⟨_,by omega,i+1,_,_,_,_,_,_,_,rfl,hp,rfl,rfl⟩
    ·have hsk:=hW.skip hlt (by unfold stepT;rw[if_neg ea,if_neg eC])
     rw[decide_eq_false eC]at pB
     (conv=>whnf);repeat' (first|(apply Ah;(· exact n1);conv=>whnf)|(refine tPv ?_;conv=>whnf)|(refine Aa pB ?_;rintro _ rfl;conv=>whnf)|(refine kA ?_;conv=>whnf)|(refine Br.mk (fun hc=>?_) fun hc=>?_<;>first|exact hc.elim|conv=>whnf)|(refine kB ?_))
     all_goals first
       |(exfalso;omega)
       |exact again.mk ⟨_,by omega,i+1,_,_,_,_,_,_,_,rfl,hsk,rfl,rfl⟩
  ·have he:=hW.all hlt
   have VH:sub (vs pv W) 0 l.length=vs pv W:=by
     have:sub (vs pv W) 0 W.length=vs pv W:=uV
     rwa [hWl]at this
   (conv=>whnf);repeat' (first|(refine FD ⟨rfl,by rw[lV];omega⟩ ?_;conv=>whnf)|(refine CB VH ?_;conv=>whnf)|(refine kA ?_;conv=>whnf)|(refine Br.mk (fun hc=>?_) fun hc=>?_<;>first|exact hc.elim|conv=>whnf)|(refine kB ?_))
   all_goals first
     |(exfalso;omega)
     |(refine ⟨true,fun h=>Bool.noConfusion h,?_⟩;rw[← he,VH];rfl)
     |(refine ⟨true,fun h=>Bool.noConfusion h,?_⟩;rw[← he];rfl)
 ·rw[show Aed true false=-1 from rfl]
  generalize (BM g c).fr=a at*
  generalize (BM g c).to=b at*
  rw[lV]
  refine Ap (fun m env st=>∃(i c' gg:Nat) (o0 o1 o2:Obj) (bC:Bool) (W:List (Int×Int)),m=l.length-i∧Half (stepT a b C (-1)) l W i∧env=[(12,.own 3 gg 0 l.length),(13,.int .i64 a),(14,.int .i64 b),(18,.int .i64 (-1)),(19,.sl bC (vs (.int .i64) C)),(101,.int .i64 l.length),(102,.int .i64 i)]∧st=⟨[o0,o1,o2,.arr gg 2 true true (vs pv W)],c'⟩) ?_ _ _ _ ⟨0,_,_,_,_,_,_,_,rfl,Half.start _ _,rfl,rfl⟩
  rintro _ _ _ ⟨i,c',gg,o0,o1,o2,bC,W,rfl,hW,rfl,rfl⟩
  refine⟨rfl,?_⟩
  have hWl:=hW.len
  by_cases hlt:i<l.length
  ·have hv:=hval _ (List.getElem_mem hlt)
   have hx:=hW.at hlt
   have n1:nth (vs pv W) (Int.toNat (Nat.cast i))=some (pv (l[i])):=by rw[← hx];exact nVN (by omega)
   obtain⟨_,⟨q,rfl⟩,pB⟩:=((bsC (nn:=bC) (x:=(l[i]).1) (by omega) hinc).up Oi).JF
   have hp:=hW.put hlt
   unfold stepT at hp
   by_cases ea:(l[i]).1=a∨(l[i]).1=b
   ·rw[if_pos ea]at hp
    (conv=>whnf);repeat' (first|(apply Ah;(· exact n1);conv=>whnf)|(refine tPv ?_;conv=>whnf)|(refine Aa pB ?_;rintro _ rfl;conv=>whnf)|(refine kA ?_;conv=>whnf)|(refine Br.mk (fun hc=>?_) fun hc=>?_<;>first|exact hc.elim|conv=>whnf)|(refine kB ?_))
    all_goals first
     |(exfalso;omega)
     |exact again.mk ⟨_,by omega,i+1,_,_,_,_,_,_,_,rfl,hp,rfl,rfl⟩
   ·rw[if_neg ea]at hp
    by_cases eC:(l[i]).1∈C
    ·rw[if_pos eC]at hp
     rw[decide_eq_true eC]at pB
     (conv=>whnf);repeat' (first|(apply Ah;(· exact n1);conv=>whnf)|(refine tPv ?_;conv=>whnf)|(refine Aa pB ?_;rintro _ rfl;conv=>whnf)|(refine kA ?_;conv=>whnf)|(refine Br.mk (fun hc=>?_) fun hc=>?_<;>first|exact hc.elim|conv=>whnf)|(refine kB ?_))
     all_goals first
       |(exfalso;omega)
       |exact again.mk ⟨_,by omega,i+1,_,_,_,_,_,_,_,rfl,hp,rfl,rfl⟩
    ·have hsk:=hW.skip hlt (by unfold stepT;rw[if_neg ea,if_neg eC])
     rw[decide_eq_false eC]at pB
     (conv=>whnf);repeat' (first|(apply Ah;(· exact n1);conv=>whnf)|(refine tPv ?_;conv=>whnf)|(refine Aa pB ?_;rintro _ rfl;conv=>whnf)|(refine kA ?_;conv=>whnf)|(refine Br.mk (fun hc=>?_) fun hc=>?_<;>first|exact hc.elim|conv=>whnf)|(refine kB ?_))
     all_goals first
       |(exfalso;omega)
       |exact again.mk ⟨_,by omega,i+1,_,_,_,_,_,_,_,rfl,hsk,rfl,rfl⟩
  ·have he:=hW.all hlt
   have VH:sub (vs pv W) 0 l.length=vs pv W:=by
     have:sub (vs pv W) 0 W.length=vs pv W:=uV
     rwa [hWl]at this
   (conv=>whnf);repeat' (first|(refine FD ⟨rfl,by rw[lV];omega⟩ ?_;conv=>whnf)|(refine CB VH ?_;conv=>whnf)|(refine kA ?_;conv=>whnf)|(refine Br.mk (fun hc=>?_) fun hc=>?_<;>first|exact hc.elim|conv=>whnf)|(refine kB ?_))
   all_goals first
     |(exfalso;omega)
     |(refine ⟨true,fun h=>Bool.noConfusion h,?_⟩;rw[← he,VH];rfl)
     |(refine ⟨true,fun h=>Bool.noConfusion h,?_⟩;rw[← he];rfl)
 ·rw[show Aed true true=0 from rfl]
  generalize (BM g c).fr=a at*
  generalize (BM g c).to=b at*
  rw[lV]
  refine Ap (fun m env st=>∃(i c' gg:Nat) (o0 o1 o2:Obj) (bC:Bool) (W:List (Int×Int)),m=l.length-i∧Half (stepT a b C (0)) l W i∧env=[(12,.own 3 gg 0 l.length),(13,.int .i64 a),(14,.int .i64 b),(18,.int .i64 (0)),(19,.sl bC (vs (.int .i64) C)),(101,.int .i64 l.length),(102,.int .i64 i)]∧st=⟨[o0,o1,o2,.arr gg 2 true true (vs pv W)],c'⟩) ?_ _ _ _ ⟨0,_,_,_,_,_,_,_,rfl,Half.start _ _,rfl,rfl⟩
  rintro _ _ _ ⟨i,c',gg,o0,o1,o2,bC,W,rfl,hW,rfl,rfl⟩
  refine⟨rfl,?_⟩
  have hWl:=hW.len
  by_cases hlt:i<l.length
  ·have hv:=hval _ (List.getElem_mem hlt)
   have hx:=hW.at hlt
   have n1:nth (vs pv W) (Int.toNat (Nat.cast i))=some (pv (l[i])):=by rw[← hx];exact nVN (by omega)
   obtain⟨_,⟨q,rfl⟩,pB⟩:=((bsC (nn:=bC) (x:=(l[i]).1) (by omega) hinc).up Oi).JF
   have hp:=hW.put hlt
   unfold stepT at hp
   by_cases ea:(l[i]).1=a∨(l[i]).1=b
   ·rw[if_pos ea]at hp
    (conv=>whnf);repeat' (first|(apply Ah;(· exact n1);conv=>whnf)|(refine tPv ?_;conv=>whnf)|(refine Aa pB ?_;rintro _ rfl;conv=>whnf)|(refine kA ?_;conv=>whnf)|(refine Br.mk (fun hc=>?_) fun hc=>?_<;>first|exact hc.elim|conv=>whnf)|(refine kB ?_))
    all_goals first
     |(exfalso;omega)
     |exact again.mk ⟨_,by omega,i+1,_,_,_,_,_,_,_,rfl,hp,rfl,rfl⟩
   ·rw[if_neg ea]at hp
    by_cases eC:(l[i]).1∈C
    ·rw[if_pos eC]at hp
     rw[decide_eq_true eC]at pB
     (conv=>whnf);repeat' (first|(apply Ah;(· exact n1);conv=>whnf)|(refine tPv ?_;conv=>whnf)|(refine Aa pB ?_;rintro _ rfl;conv=>whnf)|(refine kA ?_;conv=>whnf)|(refine Br.mk (fun hc=>?_) fun hc=>?_<;>first|exact hc.elim|conv=>whnf)|(refine kB ?_))
     all_goals first
       |(exfalso;omega)
       |exact again.mk ⟨_,by omega,i+1,_,_,_,_,_,_,_,rfl,hp,rfl,rfl⟩
    ·have hsk:=hW.skip hlt (by unfold stepT;rw[if_neg ea,if_neg eC])
     rw[decide_eq_false eC]at pB
     (conv=>whnf);repeat' (first|(apply Ah;(· exact n1);conv=>whnf)|(refine tPv ?_;conv=>whnf)|(refine Aa pB ?_;rintro _ rfl;conv=>whnf)|(refine kA ?_;conv=>whnf)|(refine Br.mk (fun hc=>?_) fun hc=>?_<;>first|exact hc.elim|conv=>whnf)|(refine kB ?_))
     all_goals first
       |(exfalso;omega)
       |exact again.mk ⟨_,by omega,i+1,_,_,_,_,_,_,_,rfl,hsk,rfl,rfl⟩
  ·have he:=hW.all hlt
   have VH:sub (vs pv W) 0 l.length=vs pv W:=by
     have:sub (vs pv W) 0 W.length=vs pv W:=uV
     rwa [hWl]at this
   (conv=>whnf);repeat' (first|(refine FD ⟨rfl,by rw[lV];omega⟩ ?_;conv=>whnf)|(refine CB VH ?_;conv=>whnf)|(refine kA ?_;conv=>whnf)|(refine Br.mk (fun hc=>?_) fun hc=>?_<;>first|exact hc.elim|conv=>whnf)|(refine kB ?_))
   all_goals first
     |(exfalso;omega)
     |(refine ⟨true,fun h=>Bool.noConfusion h,?_⟩;rw[← he,VH];rfl)
     |(refine ⟨true,fun h=>Bool.noConfusion h,?_⟩;rw[← he];rfl)
theorem AbX {g:GG} {c:GC} (hg:g.ok) (hc:c.ok) (hN:g.nodes.length≤100) (hE:g.edges.length≤100) (hgood:∀n∈g.edges,Rk n) {types:List (List UInt8)} (ht:types.length<2^40) {tn ln:Bool} {l:List (Int×Int)} (hl:l.length<2^40) (hln:ln=false→l=[])
 (hh:(Ak g c).1.ok∧(Ak g c).1.nodes.length≤200∧(Ak g c).1.edges.length≤200):
 Af (Ad Oh) 18 [.sl ln (vs pv l),g.av,.sl tn (vs .str types),c.av] (fun v=>∃b,(b=false→J4 l g types c=[])∧v=.Cb [.sl b (vs pv (J4 l g types c)),.int .i64 (Sm l g types c)]):=by
 by_cases h1:l=JE types g
 case neg=>exact S9 hg hc hN hE ht hl hh (.inl h1)
 by_cases h0:(Ak g c).2=0
 case neg=>exact S9 hg hc hN hE ht hl hh (.inr (.inl h0))
 by_cases o1:c.op=1
 ·exact S9 hg hc hN hE ht hl hh (.inr (.inr (.inl o1)))
 by_cases o2:c.op=2
 ·exact S9 hg hc hN hE ht hl hh (.inr (.inr (.inr o2)))
 by_cases hn:MG types g c
 ·exact AgH hg hc hN hE hgood ht hln hh h1 h0 o1 o2 hn
 ·exact AhA hg hc hN hE hgood ht hln h1 h0 o1 o2 hn
theorem rtG {g:GG} (hg:g.ok) (hN:g.nodes.length≤1000) {types:List (List UInt8)} (ht:types.length<2^63) {tn:Bool}:∃b,Af (Ad tab) 22 [g.av,.sl tn (vs .str types)] (· =.sl b (vs pv (JE types g))):=by
 have h:=Aak (tn:=tn) hg hN ht
 unfold JE
 by_cases hck:AB g=0
 ·rw[if_pos hck]at h ⊢
  rw[AgG hck]
  exact⟨_,h⟩
 ·rw[if_neg hck]at h ⊢
  exact⟨_,h⟩
theorem AbB {types:List (List UInt8)} {g:GG}:G8 types (G5 g).edges=G8 types g.edges:=by
 have hj:∀x y,JN types (G5 g).edges x y↔JN types g.edges x y:=fun x y=>by
  rw[Ej,Ej]
  constructor
  ·rintro⟨e,he,hp⟩
   obtain⟨f,hf,rfl⟩:=List.mem_map.1 (show e∈g.edges.map Xc from he)
   exact⟨f,hf,hp⟩
  ·rintro⟨e,he,hp⟩
   exact⟨Xc e,List.mem_map.2 ⟨e,he,rfl⟩,hp⟩
 funext x y
 unfold G8
 rw[decide_eq_decide]
 unfold NR
 rw[hj,hj]
theorem AbC {types:List (List UInt8)} {g h:GG} (e:G5 g=G5 h):JE types g=JE types h:=by
 have hc:=KP e
 have hi:Dc g=Dc h:=by
  have:∀g:GG,Dc (G5 g)=Dc g:=fun g=>by
   show(g.nodes.map Vk).map GN.id=g.nodes.map GN.id
   rw[List.map_map];rfl
  rw[← this g,e,this h]
 unfold JE
 by_cases h0:AB h=0
 ·rw[if_pos h0,if_pos (hc.trans h0),L6 h0,L6 (hc.trans h0),hi,←AbB (g:=g),e,AbB]
 ·rw[if_neg h0,if_neg (by rw[hc];exact h0)]
set_option maxHeartbeats 8000000 in
theorem Ag8 {g:GG} {c:GC} (hg:g.ok) (hc:c.ok) (hN:g.nodes.length≤100) (hE:g.edges.length≤100) {types:List (List UInt8)} (ht:types.length<2^40) {tn ln:Bool} {l:List (Int×Int)} (hl:l.length<2^40)
 (hh:(Ak g c).1.nodes.length≤200):
 Af (Ad tab) 19 [.sl ln (vs pv l),g.av,.sl tn (vs .str types),c.av] (fun v=>∃b,v=.Cb [.sl b (vs pv (J4 l g types c)),.int .i64 (Sm l g types c)]):=by
 obtain⟨b0,p1⟩:=rtG (tn:=tn) hg (by omega) (types:=types) (by omega)
 have htl:(JE types g).length<2^40:=by
  unfold JE
  split
  ·unfold Ik;rw[List.length_map];omega
  ·simp
 have p2:=AbD (b1:=ln) (b2:=b0) hl htl
 obtain⟨_,⟨h,rfl,hn,hok⟩,p3⟩:=(AeJ hg hc (by omega) (by omega)).JF
 have hhl:h.nodes.length≤200:=by
  have:=congrArg (fun g=>g.nodes.length) hn
  simp only[G5,List.length_map]at this
  omega
 unfold J4 Sm
 by_cases h1:l=JE types g
 case neg=>
  rw[decide_eq_false h1]at p2
  rw[if_pos h1,if_pos h1]
  refine Ac rfl rfl ?_
  (conv=>whnf);repeat' (first|((first|refine Aa p1 ?_|refine Aa p2 ?_);rintro _ rfl;conv=>whnf)|(refine kA ?_;conv=>whnf)|(refine Br.mk (fun hc=>?_) fun hc=>?_<;>first|exact hc.elim|conv=>whnf)|(refine kB ?_))
  all_goals first|exact⟨false,rfl⟩|(exfalso;omega)
 rw[decide_eq_true h1]at p2
 rw[if_neg (not_not_intro h1),if_neg (not_not_intro h1)]
 by_cases h0:(Ak g c).2=0
 case neg=>
  rw[if_pos h0]
  generalize (Ak g c).2=e at p3 h0 ⊢
  refine Ac rfl rfl ?_
  (conv=>whnf);repeat' (first|((first|refine Aa p1 ?_|refine Aa p2 ?_|refine Aa p3 ?_);rintro _ rfl;conv=>whnf)|(refine kA ?_;conv=>whnf)|(refine Br.mk (fun hc=>?_) fun hc=>?_<;>first|exact hc.elim|conv=>whnf)|(refine kB ?_))
  all_goals first|exact⟨false,rfl⟩|(exfalso;omega)
 rw[if_neg (not_not_intro h0)]
 obtain⟨b4,p4⟩:=rtG (tn:=tn) hok (by omega) (types:=types) (by omega)
 have e4:=AbC (types:=types) hn
 unfold JE at e4 p4
 rw[if_pos (CS h0),if_pos ((KP hn).trans (CS h0))]at e4
 rw[if_pos ((KP hn).trans (CS h0)),e4]at p4
 rw[h0]at p3 ⊢
 generalize Ik types (Ak g c).1=W at p4 ⊢
 refine Ac rfl rfl ?_
 (conv=>whnf);repeat' (first|((first|refine Aa p1 ?_|refine Aa p2 ?_|refine Aa p3 ?_|refine Aa p4 ?_);rintro _ rfl;conv=>whnf)|(refine kA ?_;conv=>whnf)|(refine Br.mk (fun hc=>?_) fun hc=>?_<;>first|exact hc.elim|conv=>whnf)|(refine kB ?_))
 all_goals first|exact⟨b4,rfl⟩|(exfalso;omega)
def MN:GG:=⟨true,[⟨1,false,[],false,[]⟩,⟨2,false,[],false,[]⟩,⟨3,false,[],false,[]⟩],true,[⟨1,1,2,[84],false,[]⟩,⟨2,2,3,[84],false,[]⟩],4,3⟩
theorem AlC:Af (Ad tab) 26 [] (· =MN.av):=⟨_,⟨60,by kernel_rfl⟩,rfl⟩
theorem Abu:MN.ok:=by
 unfold GG.ok MN Ln I64
 dsimp only
 refine⟨by simp,by simp,?_,by simp,by simp,?_,by omega,by omega⟩
 ·intro n hn
  simp only[List.mem_cons,List.not_mem_nil,or_false]at hn
  rcases hn with rfl|rfl|rfl<;>(unfold GN.ok Ln I64;dsimp only;refine⟨by omega,by simp,by simp,by simp,by simp,by simp,by simp⟩)
 ·intro n hn
  simp only[List.mem_cons,List.not_mem_nil,or_false]at hn
  rcases hn with rfl|rfl<;>(unfold GE.ok Ln I64;dsimp only;refine⟨by omega,by omega,by omega,by simp,by simp,by simp,by simp⟩)
set_option maxRecDepth 100000 in
theorem AlB:Dp (run (Ad tab) 200) 27 [MN.av]=some (.int .i64 0):=by kernel_rfl
theorem Zu:Tryz.prog.cellsOf 52=10:=by kernel_rfl
theorem Jy {l:List AV} {n:Nat} (h:l.length=n+1):∃a r,l=a::r∧r.length=n:=by
 cases l with
 |nil=>simp at h
 |cons a r=>exact⟨a,r,rfl,by simpa using h⟩
theorem Sj {d:Nat} {a:AV} (h:like Tryz.prog d 52 a):∃c:GC,a=c.av∧c.ok:=by
 obtain⟨cs,rfl,h0⟩:=EF Tryz.underlying52 h
 obtain⟨d',rfl,g1,g2⟩:=Ee Tryz.underlying52 h0
 rw[Zu]at g1
 obtain⟨a1,r1,rfl,q1⟩:=Jy g1
 obtain⟨a2,r2,rfl,q2⟩:=Jy q1
 obtain⟨a3,r3,rfl,q3⟩:=Jy q2
 obtain⟨a4,r4,rfl,q4⟩:=Jy q3
 obtain⟨b1,b2,b3,b4,b5,b6,rfl⟩:=AmD q4
 clear g1 q1 q2 q3 q4
 simp only[List.forall_mem_cons]at g2
 obtain⟨f1,f2,f3,f4,f5,f6,_⟩:=g2
 simp only[Wp,Qy,XJ,List.drop_zero,List.drop_succ_cons,List.take_succ_cons,List.take_zero]at f1 f2 f3 f4 f5 f6
 obtain⟨k,e1,h1⟩:=EO f1
 obtain⟨i,e2,h2⟩:=EO f2
 obtain⟨fr,e3,h3⟩:=EO f3
 obtain⟨to,e4,h4⟩:=EO f4
 obtain⟨s,e5,h5⟩:=Ti f5
 obtain⟨v,e6,h6⟩:=Nw f6
 cases e1;cases e2;cases e3;cases e4;cases e5;cases e6
 exact⟨⟨k,i,fr,to,s,v⟩,rfl,h1,h2,h3,h4,h5,h6⟩
theorem XH {a:AV} (h:Like Tryz.prog 63 a):∃nn L,a=.sl nn (vs GC.av L)∧Ln L∧∀c∈L,c.ok:=by
 obtain⟨d,h⟩:=h
 obtain⟨nn,l,e,_,h2,h3⟩:=TI (f:=GC.av) (Q:=GC.ok) Tryz.underlying63 (fun d x h=>Sj h) h
 exact⟨nn,l,e,Ro h2,h3⟩
theorem AcE {AP:Nat→Option G9} {f:Nat} {args:List AV} {v w:AV} {n:Nat} (h:Af AP f args (· =v)) (k:Dp (run AP n) f args=some w):v=w:=by
 obtain⟨u,⟨m,h1⟩,rfl⟩:=h
 have e1:=JV (ML (AP:=AP) (Nat.le_add_right m n)) h1
 have e2:=JV (ML (AP:=AP) (Nat.le_add_left n m)) k
 rw[e1]at e2
 exact Option.some.inj e2
theorem AlA:AB MN=0:=by
 have h:=AcE (Aad Abu) AlB
 simpa using h
set_option maxRecDepth 100000 in
theorem aC:Af (Ad tab) 9 [MN.av,.sl false [],.int .i64 1] (· =.Cb [.agg [.int .i64 2,.int .i64 3],.bool true]):=⟨_,⟨200,by kernel_rfl⟩,rfl⟩
def AgP:AV:=.sl true [.agg [.int .i64 1,.int .i64 0,.int .i64 1],.agg [.int .i64 2,.int .i64 1,.int .i64 1],.agg [.int .i64 3,.int .i64 0,.int .i64 1]]
set_option maxRecDepth 100000 in
theorem aB:Af (Ad tab) 11 [MN.av,.sl false []] (· =.Cb [AgP,.int .i64 0]):=⟨_,⟨200,by kernel_rfl⟩,rfl⟩
theorem aS:Af (Ad tab) 13 [AgP,AgP] (· =.bool true):=⟨_,⟨200,by kernel_rfl⟩,rfl⟩
set_option maxHeartbeats 2000000 in
theorem Jf:Af (Ad Oh) 8 [] (· =.bool true):=by
 have a0:=AlC.up Oi
 have a1:=aC.up Oi
 have a2:=aB.up Oi
 have a3:=aS.up Oi
 obtain⟨b4,_,a4⟩:=Z8 (tn:=false) Abu (by decide) (by decide) (types:=[]) (by decide)
 have hl:(JE [] MN).length=3:=by
  unfold JE
  rw[if_pos AlA]
  unfold Ik
  rw[List.length_map];rfl
 have a4:Af (Ad Oh) 21 [MN.av,.sl false []] (· =.sl b4 (vs pv (JE [] MN))):=a4
 generalize JE [] MN=W at a4 hl
 unfold AgP at a2 a3
 refine Ac rfl rfl ?_
 (conv=>whnf);repeat' (first|((first|refine Aa a0 ?_|refine Aa a1 ?_|refine Aa a2 ?_|refine Aa a3 ?_|refine Aa a4 ?_);rintro _ rfl;conv=>whnf)|(refine kA ?_;conv=>whnf)|(refine Br.mk (fun hc=>?_) fun hc=>?_<;>first|exact hc.elim|conv=>whnf)|(refine kB ?_))
 all_goals first
  |rfl
  |(exfalso;omega)
theorem AjA {g:GG} (hg:g.ok) {types:List (List UInt8)} {tn:Bool} (ht:types.length<2^63):Af (Ad tab) 7 [g.av,.sl tn (vs .str types)] (fun v=>∃b,v=.bool b∧(b=true→SmG g 12 24∧types.length≤8)):=by
 obtain⟨_,⟨b,rfl,hb⟩,p⟩:=(small hg (n:=12) (e:=24)).JF
 cases b with
 |false=>
  refine Ac rfl rfl ?_
  (conv=>whnf);repeat' (first|(refine Aa p ?_;rintro _ rfl;conv=>whnf)|(refine kA ?_;conv=>whnf)|(refine Br.mk (fun hc=>?_) fun hc=>?_<;>first|exact hc.elim|conv=>whnf)|(refine kB ?_))
  all_goals first
   |exact⟨false,rfl,fun h=>by cases h⟩
 |true=>
  have hs:=hb rfl
  refine Ac rfl rfl ?_
  (conv=>whnf);repeat' (first|(refine Aa p ?_;rintro _ rfl;conv=>whnf)|(refine kA ?_;conv=>whnf)|(refine Br.mk (fun hc=>?_) fun hc=>?_<;>first|exact hc.elim|conv=>whnf)|(refine kB ?_))
  all_goals first
   |exact⟨_,rfl,fun h=>⟨hs,by have:=of_decide_eq_true h;omega⟩⟩
   |exact⟨true,rfl,fun h=>⟨hs,by omega⟩⟩
   |exact⟨false,rfl,fun h=>by cases h⟩
theorem AgQ {g:GG} (hg:g.ok) {a b:Int} (hs:SmG g a b):∀e∈g.edges,Rk e:=fun n hn=>by
 obtain⟨o1,o2,o3,o4,o5,o6,o7⟩:=hg.2.2.2.2.2.1 n hn
 obtain⟨s1,s3⟩:=hs.2.2.2 n hn
 exact⟨o6,s3.1,fun p hp=>⟨o7 p hp,(s3.2 p hp).2⟩⟩
theorem TG {a:AV} (h:Like Tryz.prog 26 a):∃nn l,a=.sl nn (vs .str l)∧l.length<2^63:=by
 obtain⟨d,h⟩:=h
 obtain⟨nn,l,e,_,h2,_⟩:=TI (f:=AV.str) (Q:=Ln) Tryz.underlying26 (fun d x h=>by
  obtain⟨k,e1,h1⟩:=Rn Tryz.underlying9 h
  exact⟨k,e1,Ro h1⟩) h
 exact⟨nn,l,e,Ro h2⟩
theorem TK {g:GG} {c:GC}:(Ak g c).1.nodes.length≤g.nodes.length+1∧(Ak g c).1.edges.length≤g.edges.length+1:=by
 unfold Ak
 split
 ·exact⟨Nat.zero_le _,Nat.zero_le _⟩
 split
 ·exact⟨Nat.zero_le _,Nat.zero_le _⟩
 ·exact Aeo g c
theorem VP {g:GG} {c:GC} (hg:g.ok) (hc:c.ok):(Ak g c).1.ok:=by
 unfold Ak
 split
 ·exact PE
 rename_i h0
 split
 ·exact PE
 ·exact AgR hg (TL (Classical.not_not.1 h0)) hc
end AI
end Go.Proofs.YtchcadfjbkkgmaaGreatDoor
