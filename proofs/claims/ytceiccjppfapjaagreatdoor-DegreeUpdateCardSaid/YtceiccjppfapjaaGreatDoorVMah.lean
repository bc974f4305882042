/- A list sorted: the reference's. Sorting (slices.SortFunc[[]int,int]), leaving out what repeats (none). Degrees of nodes: plain. Degree sequences: the program's. Degree sequences: the reference's; both, of any graph. degree.Of: the loop over the types. Statistics as data, and when two are the same. -/
import Derived.Test.YtceiccjppfapjaaGreatDoorVMad
import Derived.Test.YtceiccjppfapjaaGreatDoorVMae
import Derived.Test.YtceiccjppfapjaaGreatDoorVMaf
import Derived.Test.YtceiccjppfapjaaGreatDoorVSu
import Derived.Test.YtceiccjppfapjaaGreatDoorVCk8
import Derived.Test.YtceiccjppfapjaaGreatDoorVMag
import Derived.Test.YtceiccjppfapjaaGreatDoorBMab
set_option linter.unusedVariables false
set_option maxRecDepth 4000
namespace Go.Proofs.YtceiccjppfapjaaGreatDoor
namespace AI
theorem AhB {l:List Int} {x:Int} {i:Nat} (hi:desc l) (h1:∀y∈l.take i,x≤y) (h2:∀y∈l.drop i,y≤x):desc (l.take i++x::l.drop i):=by
 refine List.pairwise_append.2 ⟨List.Pairwise.sublist (List.take_sublist _ _) hi,List.pairwise_cons.2 ⟨h2,List.Pairwise.sublist (List.drop_sublist _ _) hi⟩,fun a ha b hb=>?_⟩
 rcases List.mem_cons.1 hb with rfl|hb
 ·exact h1 a ha
 ·have:=h1 a ha;have:=h2 b hb;omega
theorem Ae1 {l:List Int} (hd:desc l) {i:Nat} (h:i<l.length) {x:Int} (h1:¬x≤l[i]):∀y∈l.drop i,y≤x:=by
 intro y hy
 obtain⟨j,hj,rfl⟩:=List.getElem_of_mem hy
 rw[List.getElem_drop]
 have hij:i+j<l.length:=by simp at hj;omega
 rcases Nat.eq_zero_or_pos j with rfl|h0
 ·simp;omega
 ·have:=List.pairwise_iff_getElem.1 hd i (i+j) h hij (by omega)
  omega
theorem AhC {l:List Int} {x:Int} {i:Nat}:(l.take i++x::l.drop i).Perm (l++[x]):=by
 refine List.perm_middle.trans ?_
 rw[List.take_append_drop]
 exact List.perm_append_comm (l₁:=[x]) (l₂:=l)
set_option maxHeartbeats 1000000 in
theorem Ai4 {l:List Int} (hl:l.length<2^40) {nn:Bool}:Af (Ad tab) 126 [.sl nn (vi l)] (fun v=>∃b W,v=.sl b (vi W)∧desc W∧W.Perm l):=by
 refine Ac rfl rfl ?_
 (conv=>whnf);repeat' (first  |(refine kA ?_;conv=>whnf)|(refine Br.mk (fun hc=>?_) fun hc=>?_<;>first|exact hc.elim|conv=>whnf)|(refine kB ?_))
 refine Ae (fun m env s=>∃(i c:Nat) (b:Bool) (W:List Int),m=l.length-i∧i≤l.length∧desc W∧W.Perm (l.take i)∧env=[(0,.sl nn (vi l)),(3,.sl b (vi W)),(4,.int .i64 i)]∧s=⟨[],c⟩) ?_ _ _ _ ⟨0,_,false,[],rfl,by omega,List.Pairwise.nil,by simp,rfl,rfl⟩
 rintro _ _ _ ⟨i,c,b,W,rfl,hi,hd,hp,rfl,rfl⟩
 refine⟨rfl,?_⟩
 have hWl:W.length=i:=by rw[hp.length_eq];simp;omega
 by_cases hlt:i<l.length
 ·(conv=>whnf);repeat' (first  |(refine kA ?_;conv=>whnf)|(refine Br.mk (fun hc=>?_) fun hc=>?_<;>first|exact hc.elim|conv=>whnf)|(refine kB ?_))
  refine Ae (fun m env s=>∃k:Nat,m=W.length-k∧k≤W.length∧(∀ y∈W.take k,l[i]≤y)∧env=[(0,.sl nn (vi l)),(3,.sl b (vi W)),(4,.int .i64 i),(5,.int .i64 k)]∧s=⟨[],c⟩) ?_ _ _ _ ⟨0,rfl,by omega,by simp,rfl,rfl⟩
  rintro _ _ _ ⟨k,rfl,hk,hx,rfl,rfl⟩
  refine⟨rfl,?_⟩
  have e0:(W.drop 0).take (Int.toNat (k:Int)-0)=W.take k:=by simp
  have e1:∀n,n+k=W.length→(W.drop (Int.toNat (k:Int))).take n=W.drop k:=fun n hn=>by
   rw[Int.toNat_natCast];exact List.take_of_length_le (by simp;omega)
  have htl:(W.take k).length=k:=by simp;omega
  have hdl:(W.drop k).length+k=W.length:=by simp;omega
  have hfin:∀(c:Nat) (bb:Bool) (Z:List Int),Z=W.take k++l[i]::W.drop k→(∀ y∈W.drop k,y≤l[i])→again (fun m env s=>∃(i c:Nat) (b:Bool) (W:List Int),m=l.length-i∧i≤l.length∧desc W∧W.Perm (l.take i)∧env=[(0,.sl nn (vi l)),(3,.sl b (vi W)),(4,.int .i64 i)]∧s=⟨[],c⟩) (l.length-i) [(0,.sl nn (vi l)),(3,.sl bb (vi Z)),(4,.int .i64 (i+1))] ⟨[],c⟩:=by
   intro c bb Z hZ hr
   refine again.mk ⟨_,by omega,i+1,c,bb,Z,rfl,by omega,?_,?_,rfl,rfl⟩
   ·rw[hZ];exact AhB hd hx hr
   ·rw[hZ,List.take_succ_eq_append_getElem hlt]
    exact AhC.trans (List.Perm.append_right _ hp)
  (conv=>whnf);repeat' (first|((with_reducible show need _ _);refine need.mk ⟨by (try rw[lV]);omega,by(try rw[lV]);omega⟩ ?_;conv=>whnf)|((with_reducible show need _ _);refine need.mk (Dh Cj _) ?_;conv=>whnf)|((with_reducible show eqK _ _);apply BG;(· exact Ji _ _ _);conv=>whnf)|(refine AsQ (l:=[]) (l':=W.take k) (by rw[e0]) Cj rfl (by simp only[List.length_nil];omega) ?_;conv=>whnf)|(refine Dc (x:=l[i]) Cj (by simp) (by simp only[List.length_append,List.length_nil,htl];omega) ?_;conv=>whnf)|(refine Ae2 (l':=W.drop k) (by rw[e1 _ (by rw[lV];omega)]) Cj (by simp) (by simp only[List.length_append,List.length_nil,List.length_cons,htl];omega) (fun b=>?_);conv=>whnf)|(refine kA ?_;conv=>whnf)|(refine Br.mk (fun hc=>?_) fun hc=>?_<;>first|exact hc.elim|conv=>whnf)|(refine kB ?_))
  ·exact again.mk ⟨_,by omega,k+1,rfl,by omega,Bz (by omega) hx hc,rfl,rfl⟩
  ·refine hfin _ _ _ ?_ (Ae1 hd (by omega) hc)
   rw[List.drop_zero,List.nil_append,List.append_assoc,List.cons_append,List.nil_append,List.take_of_length_le (by simp;omega)]
  ·refine hfin _ _ _ ?_ (fun y hy=>by rw[List.drop_eq_nil_of_le (by omega)]at hy;cases hy)
   rw[List.drop_zero,List.nil_append,List.append_assoc,List.cons_append,List.nil_append,List.take_of_length_le (by simp;omega)]
 ·rw[List.take_of_length_le (by omega)]at hp
  (conv=>whnf);repeat' (first  |(refine kA ?_;conv=>whnf)|(refine Br.mk (fun hc=>?_) fun hc=>?_<;>first|exact hc.elim|conv=>whnf)|(refine kB ?_))
  exact⟨b,W,rfl,hd,hp⟩
end AI
end Go.Proofs.YtceiccjppfapjaaGreatDoor
set_option linter.unusedVariables false
namespace Go.Proofs.YtceiccjppfapjaaGreatDoor
namespace AI
open Go.Sort
theorem AlQ {AX Cc:Obj} {g len c:Nat} {nn cl:Bool} {L:List Int} (hl:L.length=len) (hs:len<2^61):
 Au (Ad tab) 135 [.own 2 g 0 len,.fn 136 []] ⟨[AX,Cc,.arr g 1 nn cl (vs (.int .i64) L)],c⟩ fun out s'=>∃c' W,out=.ok (.BH [])∧s'=⟨[AX,Cc,.arr g 1 nn cl (vs (.int .i64) W)],c'⟩∧W.Perm L∧W.Pairwise (fun x y=>Dy y x=false):=by
 have hb:bitsLen len≤62:=(bitsLen_le_iff len 62).2 (by omega)
 refine Ah rfl rfl ?_
 (conv=>whnf);repeat' (first|(refine wrapN len rfl rfl (by show _<2^64;omega) ?_;conv=>whnf)|(refine Aa (U2 (n:=len) (by omega)) ?_;rintro _ rfl;conv=>whnf)|(refine kA ?_;conv=>whnf)|(refine Br.mk (fun hc=>?_) fun hc=>?_<;>first|exact hc.elim|conv=>whnf)|(refine kB ?_))
 refine(Ai2 hl hs (by omega) (by omega)).mono ?_
 rintro _ _ ⟨c',W,rfl,rfl,h1,h2⟩
 conv=>whnf
 apply Ag rfl
 (conv=>whnf);repeat' (first  |(refine kA ?_;conv=>whnf)|(refine Br.mk (fun hc=>?_) fun hc=>?_<;>first|exact hc.elim|conv=>whnf)|(refine kB ?_))
 exact⟨_,W,rfl,rfl,h1,h2⟩
end AI
end Go.Proofs.YtceiccjppfapjaaGreatDoor
set_option linter.unusedVariables false
namespace Go.Proofs.YtceiccjppfapjaaGreatDoor
namespace AI
def hits (typ:List UInt8) (dir n:Int) (e:GE):Prop:=(typ=[]∨e.ty=typ)∧(dir=1∧e.fr=n∨dir=2∧e.to=n)
instance (typ:List UInt8) (dir n:Int) (e:GE):Decidable (hits typ dir n e):=by unfold hits;infer_instance
def Ui (typ:List UInt8) (dir n:Int) (e:GE):Int:=if hits typ dir n e then 1 else 0
def Iu (typ:List UInt8) (dir:Int) (E:List GE) (n:Int):Int:=Ey (E.map (Ui typ dir n))
theorem OE {typ:List UInt8} {dir n:Int} {E:List GE} {i:Nat} (h:i<E.length):Iu typ dir (E.take (i+1)) n=Iu typ dir (E.take i) n+Ui typ dir n E[i]:=OC h
theorem PD {typ:List UInt8} {dir n:Int} {E:List GE}:0≤Iu typ dir E n∧Iu typ dir E n≤E.length:=by
 have:=Iy (l:=E) (f:=Ui typ dir n) (c:=1) fun x _=>by unfold Ui;split<;>omega
 unfold Iu;omega
def KN (typ:List UInt8) (dir:Int) (N:List GN) (E:List GE):List Int:=(N.map fun n=>Iu typ dir E n.id).filter (fun x=>decide (0<x))
theorem Xu {typ:List UInt8} {dir:Int} {N:List GN} {E:List GE} {i:Nat} (h:i<N.length):
 KN typ dir (N.take (i+1)) E=KN typ dir (N.take i) E++(if 0<Iu typ dir E (N[i]).id then[Iu typ dir E (N[i]).id]else[]):=by
 unfold KN
 rw[List.take_succ_eq_append_getElem h,List.map_append,List.filter_append]
 congr 1
 by_cases hd:0<Iu typ dir E (N[i]).id
 ·rw[if_pos hd];simp[hd]
 ·rw[if_neg hd];simp[hd]
theorem AfX {typ:List UInt8} {dir:Int} {N:List GN} {E:List GE}:(KN typ dir N E).length≤N.length:=by
 unfold KN
 have:=List.length_filter_le (fun x=>decide (0<x)) (N.map fun n=>Iu typ dir E n.id)
 simpa using this
def Aoy (c:Int) (typ:List UInt8) (dir:Int) (N:List GN) (E:List GE) (W:List Int):Prop:=(c≠0→W=[])∧(c=0→desc W∧W.Perm (KN typ dir N E))
end AI
end Go.Proofs.YtceiccjppfapjaaGreatDoor
set_option linter.unusedVariables false
namespace Go.Proofs.YtceiccjppfapjaaGreatDoor
namespace AI
theorem Ai3 {W:List Int} (h:W.Pairwise (fun x y=>Dy y x=false)):desc W:=List.Pairwise.imp (fun h=>by have:=U3.1 h;omega) h
def PE (dir:Int):Int:=if dir=1 then 1 else 2
theorem ArA {typ:List UInt8} {dir:Int} {e:GE} (ht:typ=[]∨e.ty=typ) (hd:dir=1) (n:Int):Ui typ (PE dir) n e=if n=e.fr then 1 else 0:=by
 rw[show PE dir=1 from if_pos hd]
 by_cases h:n=e.fr
 ·rw[if_pos h];exact if_pos ⟨ht,.inl ⟨rfl,h.symm⟩⟩
 ·rw[if_neg h];exact if_neg fun hh=>by have:=hh.2;omega
theorem hit2 {typ:List UInt8} {dir:Int} {e:GE} (ht:typ=[]∨e.ty=typ) (hd:¬dir=1) (n:Int):Ui typ (PE dir) n e=if n=e.to then 1 else 0:=by
 rw[show PE dir=2 from if_neg hd]
 by_cases h:n=e.to
 ·rw[if_pos h];exact if_pos ⟨ht,.inr ⟨rfl,h.symm⟩⟩
 ·rw[if_neg h];exact if_neg fun hh=>by have:=hh.2;omega
theorem hit0 {typ:List UInt8} {dir:Int} {e:GE} (ht:¬typ=[]) (ht2:¬e.ty=typ) (n:Int):Ui typ dir n e=0:=if_neg fun h=>h.1.elim ht ht2
set_option maxHeartbeats 1000000 in
theorem AlR {g:GG} (hl:g.edges.length≤4000) {typ:List UInt8} {dir:Int} {c gm:Nat} {Q:AA→Env→Ap→Prop}
 (hQ:∀c' M tl,(∀ n,(Jv M n).getD 0=Iu typ (PE dir) g.edges n)→Q (.exit 0) ([(1,.str typ),(2,.int .i64 dir),(3,.ref 0 0 0 0),(7,.map 1 gm)]++tl) ⟨[.arr 0 4 true true [g.av],.mp gm true (Xv M)],c'⟩):
 Run (Ad tab) (.loop l73_0_h l73_0_b) [(1,.str typ),(2,.int .i64 dir),(3,.ref 0 0 0 0),(7,.map 1 gm),(16,.sl g.en (vs GE.av g.edges)),(17,.int .i64 g.edges.length),(18,.int .i64 0)] ⟨[.arr 0 4 true true [g.av],.mp gm true []],c⟩ Q:=by
 refine Ae (fun m env s=>∃(i c:Nat) (M:List (Int×Int)),m=g.edges.length-i∧i≤g.edges.length∧(∀ n,(Jv M n).getD 0=Iu typ (PE dir) (g.edges.take i) n)∧env=[(1,.str typ),(2,.int .i64 dir),(3,.ref 0 0 0 0),(7,.map 1 gm),(16,.sl g.en (vs GE.av g.edges)),(17,.int .i64 g.edges.length),(18,.int .i64 i)]∧s=⟨[.arr 0 4 true true [g.av],.mp gm true (Xv M)],c⟩) ?_ _ _ _ ⟨0,c,[],rfl,by omega,fun n=>rfl,rfl,rfl⟩
 rintro _ _ _ ⟨i,c,M,rfl,hi,hM,rfl,rfl⟩
 refine⟨rfl,?_⟩
 by_cases hlt:i<g.edges.length
 ·have hb:∀n,0≤(Jv M n).getD 0∧(Jv M n).getD 0≤4000:=fun n=>by
   rw[hM];have:=@PD typ (PE dir) n (g.edges.take i);rw[List.length_take]at this;omega
  have b1:=hb (g.edges[i]).fr
  have b2:=hb (g.edges[i]).to
  have hstep:∀(k v:Int) (hk:∀n,Ui typ (PE dir) n g.edges[i]=if n=k then 1 else 0) (hv:v=(Jv M k).getD 0+1),∀n,(Jv (Uj M k v) n).getD 0=Iu typ (PE dir) (g.edges.take (i+1)) n:=by
   intro k v hk hv n
   rw[OE hlt,←hM,hk,Aed]
   by_cases hn:n=k
   ·rw[if_pos hn,if_pos hn,hn,hv];rfl
   ·rw[if_neg hn,if_neg hn,Int.add_zero]
  have Lh:(¬ typ=[])→(¬ (g.edges[i]).ty=typ)→∀n,(Jv M n).getD 0=Iu typ (PE dir) (g.edges.take (i+1)) n:=by
   intro h1 h2 n
   rw[OE hlt,←hM,hit0 h1 h2,Int.add_zero]
  (conv=>whnf);repeat' (first|(refine fkI (fun hm=>?_) (fun _ v hm=>?_)<;>(simp only[hm,Option.getD_none,Option.getD_some]at b1 b2)<;>conv=>whnf)|(apply msI;conv=>whnf)|(refine kA ?_;conv=>whnf)|(refine Br.mk (fun hc=>?_) fun hc=>?_<;>first|exact hc.elim|conv=>whnf)|(refine kB ?_))
  all_goals first
   |exact again.mk ⟨_,by omega,i+1,_,_,rfl,by omega,hstep _ _ (ArA (by first|(left;assumption)|(right;assumption)) (by assumption)) (by rw[hm];rfl),rfl,rfl⟩
   |exact again.mk ⟨_,by omega,i+1,_,_,rfl,by omega,hstep _ _ (hit2 (by first|(left;assumption)|(right;assumption)) (by assumption)) (by rw[hm];rfl),rfl,rfl⟩
   |exact again.mk ⟨_,by omega,i+1,_,M,rfl,by omega,Lh (by assumption) (by assumption),rfl,rfl⟩
 ·rw[List.take_of_length_le (by omega)]at hM
  (conv=>whnf);repeat' (first  |(refine kA ?_;conv=>whnf)|(refine Br.mk (fun hc=>?_) fun hc=>?_<;>first|exact hc.elim|conv=>whnf)|(refine kB ?_))
  exact hQ _ _ _ hM
set_option maxHeartbeats 1000000 in
theorem ZG {g:GG} (hN:g.nodes.length≤2000) (hl:g.edges.length≤4000) {typ:List UInt8} {dir:Int}:Af (Ad tab) 73 [g.av,.str typ,.int .i64 dir] (fun v=>∃b W,v=.sl b (vi W)∧desc W∧W.Perm (KN typ (PE dir) g.nodes g.edges)∧(b=false→W=[])):=by
 refine Ac rfl rfl ?_
 (conv=>whnf);repeat' (first  |(refine kA ?_;conv=>whnf)|(refine Br.mk (fun hc=>?_) fun hc=>?_<;>first|exact hc.elim|conv=>whnf)|(refine kB ?_))
 refine AlR hl ?_
 intro c0 M tl hM
 (conv=>whnf);repeat' (first  |(refine kA ?_;conv=>whnf)|(refine Br.mk (fun hc=>?_) fun hc=>?_<;>first|exact hc.elim|conv=>whnf)|(refine kB ?_))
 refine Ae (fun m env s=>∃(i c go n gm:Nat) (b:Bool) (L:List Int),m=g.nodes.length-i∧i≤g.nodes.length∧L=KN typ (PE dir) (g.nodes.take i) g.edges∧n=L.length∧n≤i∧(b=false→L=[])∧env=[(7,.map 1 gm),(10,.own 2 go 0 n),(44,.sl g.nn (vs GN.av g.nodes)),(45,.int .i64 g.nodes.length),(46,.int .i64 i)]∧s=⟨[.arr 0 4 true true [g.av],.mp gm true (Xv M),.arr go 1 b true (vi L)],c⟩) ?_ _ _ _ ⟨0,_,_,0,_,_,[],rfl,by omega,rfl,rfl,by omega,fun _=>rfl,rfl,rfl⟩
 rintro _ _ _ ⟨i,c,go,n,gm,b,L,rfl,hi,hL,hn,hni,hnil,rfl,rfl⟩
 refine⟨rfl,?_⟩
 by_cases hlt:i<g.nodes.length
 ·have hs:=@Xu typ (PE dir) g.nodes g.edges i hlt
  have hd:=hM (g.nodes[i]).id
  rw[← hd,←hL]at hs
  have hfin:∀z,z=(Jv M (g.nodes[i]).id).getD 0→0<z→L++[z]=KN typ (PE dir) (g.nodes.take (i+1)) g.edges:=fun z hz h=>by rw[hs,←hz,if_pos h]
  have Aoz:∀z,z=(Jv M (g.nodes[i]).id).getD 0→¬0<z→L=KN typ (PE dir) (g.nodes.take (i+1)) g.edges:=fun z hz h=>by rw[hs,←hz,if_neg h,List.append_nil]
  (conv=>whnf);repeat' (first|(refine fkI (fun hm=>?_) (fun _ v hm=>?_)<;>conv=>whnf)|(refine Dc (x:=v) Cj hn (by omega) ?_;conv=>whnf)|(refine kA ?_;conv=>whnf)|(refine Br.mk (fun hc=>?_) fun hc=>?_<;>first|exact hc.elim|conv=>whnf)|(refine kB ?_))
  all_goals first
   |exact again.mk ⟨_,by omega,i+1,_,_,_,_,_,_,rfl,by omega,hfin _ (by simp[hm]) (by assumption),by simp,by omega,fun h=>Bool.noConfusion h,rfl,rfl⟩
   |exact again.mk ⟨_,by omega,i+1,_,_,n,_,_,L,rfl,by omega,Aoz _ rfl (by simp only[hm,Option.getD_none,Option.getD_some];first|assumption|omega),hn,by omega,hnil,rfl,rfl⟩
 ·rw[List.take_of_length_le (by omega)]at hL
  (conv=>whnf);repeat' (first  |(refine kA ?_;conv=>whnf)|(refine Br.mk (fun hc=>?_) fun hc=>?_<;>first|exact hc.elim|conv=>whnf)|(refine kB ?_))
  refine(AlQ (L:=L) hn.symm (by omega)).mono ?_
  rintro _ _ ⟨c1,W,rfl,rfl,h1,h2⟩
  have hw:W.length=n:=by rw[h1.length_eq,hn]
  conv=>whnf
  apply Ag rfl
  (conv=>whnf);repeat' (first  |(refine kA ?_;conv=>whnf)|(refine Br.mk (fun hc=>?_) fun hc=>?_<;>first|exact hc.elim|conv=>whnf)|(refine kB ?_))
  refine⟨b,W,?_,Ai3 h2,by rw[← hL];exact h1,fun h=>by have:=hnil h;subst this;exact h1.eq_nil⟩
  rw[Ji,List.drop_zero,List.take_of_length_le (by omega)]
end AI
end Go.Proofs.YtceiccjppfapjaaGreatDoor
set_option linter.unusedVariables false
namespace Go.Proofs.YtceiccjppfapjaaGreatDoor
namespace AI
theorem ArB {g:GG} (hl:g.edges.length≤4000) {typ:List UInt8} {n dir:Int}:Af (Ad tab) 125 [g.av,.int .i64 n,.str typ,.int .i64 dir] (· =.int .i64 (Iu typ dir g.edges n)):=by
 refine Ac rfl rfl ?_
 (conv=>whnf);repeat' (first  |(refine kA ?_;conv=>whnf)|(refine Br.mk (fun hc=>?_) fun hc=>?_<;>first|exact hc.elim|conv=>whnf)|(refine kB ?_))
 refine Ae (fun m env s=>∃(i c:Nat),m=g.edges.length-i∧i≤g.edges.length∧env=[(1,.int .i64 n),(2,.str typ),(3,.int .i64 dir),(4,.ref 0 0 0 0),(9,.int .i64 (Iu typ dir (g.edges.take i) n)),(10,.int .i64 i)]∧s=⟨[.arr 0 4 true true [g.av]],c⟩) ?_ _ _ _ ⟨0,_,rfl,by omega,rfl,rfl⟩
 rintro _ _ _ ⟨i,c,rfl,hi,rfl,rfl⟩
 refine⟨rfl,?_⟩
 by_cases hlt:i<g.edges.length
 ·have hb:=@PD typ dir n (g.edges.take i)
  rw[List.length_take]at hb
  have h1:∀z,hits typ dir n g.edges[i]→z=Iu typ dir (g.edges.take i) n+1→z=Iu typ dir (g.edges.take (i+1)) n:=fun z h hz=>by
   rw[OE hlt,hz,show Ui typ dir n g.edges[i]=1 from if_pos h]
  have h0:¬hits typ dir n g.edges[i]→Iu typ dir (g.edges.take i) n=Iu typ dir (g.edges.take (i+1)) n:=fun h=>by
   rw[OE hlt,show Ui typ dir n g.edges[i]=0 from if_neg h,Int.add_zero]
  generalize Iu typ dir (g.edges.take i) n=x at*
  (conv=>whnf);repeat' (first  |(refine kA ?_;conv=>whnf)|(refine Br.mk (fun hc=>?_) fun hc=>?_<;>first|exact hc.elim|conv=>whnf)|(refine kB ?_))
  all_goals first
   |exact again.mk ⟨_,by omega,i+1,_,rfl,by omega,by rw[← h1 _ ⟨by first|(left;assumption)|(right;assumption),by omega⟩ rfl];rfl,rfl⟩
   |exact again.mk ⟨_,by omega,i+1,_,rfl,by omega,by rw[← h0 (by rintro⟨ha,hb⟩;first|omega|(rcases ha with ha|ha<;>contradiction))];rfl,rfl⟩
 ·obtain rfl:i=g.edges.length:=by omega
  rw[List.take_length]
  (conv=>whnf);repeat' (first  |(refine kA ?_;conv=>whnf)|(refine Br.mk (fun hc=>?_) fun hc=>?_<;>first|exact hc.elim|conv=>whnf)|(refine kB ?_))
  rfl
theorem Tt {g:GG} (hg:g.ok) (hN:g.nodes.length≤2000) (hl:g.edges.length≤4000) {typ:List UInt8} {dir:Int}:Af (Ad tab) 63 [g.av,.str typ,.int .i64 dir] (fun v=>∃b W,v=.sl b (vi W)∧Aoy (Az g) typ dir g.nodes g.edges W):=by
 refine Ac rfl rfl ?_
 (conv=>whnf);repeat' (first|(refine Aa (RQ hg) ?_;rintro _ rfl;conv=>whnf)|(refine kA ?_;conv=>whnf)|(refine Br.mk (fun hc=>?_) fun hc=>?_<;>first|exact hc.elim|conv=>whnf)|(refine kB ?_))
 rotate_left
 ·exact⟨false,[],rfl,fun _=>rfl,fun h=>absurd h hc⟩
 have hck:Az g=0:=hc
 refine Ae (fun m env s=>∃(i c go n:Nat) (b:Bool) (L:List Int),m=g.nodes.length-i∧i≤g.nodes.length∧L=KN typ dir (g.nodes.take i) g.edges∧n=L.length∧n≤i∧env=[(1,.str typ),(2,.int .i64 dir),(3,.ref 0 0 0 0),(7,.own 1 go 0 n),(8,.int .i64 i)]∧s=⟨[.arr 0 4 true true [g.av],.arr go 1 b true (vi L)],c⟩) ?_ _ _ _ ⟨0,_,_,0,_,[],rfl,by omega,rfl,rfl,by omega,rfl,rfl⟩
 rintro _ _ _ ⟨i,c,go,n,b,L,rfl,hi,hL,hn,hni,rfl,rfl⟩
 refine⟨rfl,?_⟩
 by_cases hlt:i<g.nodes.length
 ·have hs:=@Xu typ dir g.nodes g.edges i hlt
  (conv=>whnf);repeat' (first|(refine Aa (ArB (g:=g) (n:=(g.nodes[i]).id) hl) ?_;rintro _ rfl;conv=>whnf)|(refine Dc (x:=Iu typ dir g.edges (g.nodes[i]).id) Cj hn (by omega) ?_;conv=>whnf)|(refine kA ?_;conv=>whnf)|(refine Br.mk (fun hc=>?_) fun hc=>?_<;>first|exact hc.elim|conv=>whnf)|(refine kB ?_))
  ·rw[if_pos hc,←hL]at hs
   exact again.mk ⟨_,by omega,i+1,_,_,_,_,_,rfl,by omega,hs.symm,by simp,by omega,rfl,rfl⟩
  ·rw[if_neg hc,←hL,List.append_nil]at hs
   exact again.mk ⟨_,by omega,i+1,_,_,n,_,L,rfl,by omega,hs.symm,hn,by omega,rfl,rfl⟩
 ·rw[List.take_of_length_le (by omega)]at hL
  have hsub:sub (vi L) 0 n=vi L:=by rw[Ji,List.drop_zero,List.take_of_length_le (by omega)]
  (conv=>whnf);repeat' (first|((with_reducible show eqK _ _);apply BG hsub;conv=>whnf)|(refine kA ?_;conv=>whnf)|(refine Br.mk (fun hc=>?_) fun hc=>?_<;>first|exact hc.elim|conv=>whnf)|(refine kB ?_))
  refine Aa (Ai4 (l:=L) (by omega)) ?_
  rintro _ ⟨b2,W,rfl,w1,w2⟩
  (conv=>whnf);repeat' (first  |(refine kA ?_;conv=>whnf)|(refine Br.mk (fun hc=>?_) fun hc=>?_<;>first|exact hc.elim|conv=>whnf)|(refine kB ?_))
  exact⟨b2,W,rfl,fun h=>absurd hck h,fun _=>⟨w1,by rw[← hL];exact w2⟩⟩
end AI
end Go.Proofs.YtceiccjppfapjaaGreatDoor
set_option linter.unusedVariables false
namespace Go.Proofs.YtceiccjppfapjaaGreatDoor
namespace AI
def ND (g:GG) (dir:Int) (x:List UInt8):List Int:=sortB id (KN x dir g.nodes g.edges)
theorem AcW {g:GG} {dir:Int} {x:List UInt8} {W:List Int} (h1:desc W) (h2:W.Perm (KN x dir g.nodes g.edges)):W=ND g dir x:=
 TF (h2.trans (L9 (k:=id)).symm) h1 PG
def GY (p:Bool×List Int):AV:=.sl p.1 (vi p.2)
theorem ED:∀p,(GY p).cells.length=1:=fun _=>rfl
def IB (g:GG) (dir:Int) (R:List (List UInt8)) (O:List (Bool×List Int)):Prop:=O.map Prod.snd=R.map (ND g dir)∧∀p∈O,p.1=false→p.2=[]
theorem EW {g:GG} {dir:Int} {R:List (List UInt8)} {O:List (Bool×List Int)} {i:Nat} (hi:i<R.length) (h:IB g dir (R.take i) O) {b:Bool} {W:List Int} (h1:desc W) (h2:W.Perm (KN R[i] dir g.nodes g.edges)) (h3:b=false→W=[]):
 IB g dir (R.take (i+1)) (O++[(b,W)]):=by
 refine⟨?_,fun p hp=>?_⟩
 ·rw[List.take_succ_eq_append_getElem hi,List.map_append,List.map_append,h.1,AcW h1 h2];rfl
 ·rcases List.mem_append.1 hp with hp|hp
  ·exact h.2 p hp
  ·obtain rfl:=List.mem_singleton.1 hp;exact h3
theorem Md {g:GG} {dir:Int} {R:List (List UInt8)} {O:List (Bool×List Int)} (h:IB g dir R O):O.length=R.length:=by
 have:=congrArg List.length h.1
 simpa using this
set_option maxHeartbeats 1000000 in
theorem ArP {g:GG} (hN:g.nodes.length≤2000) (hE:g.edges.length≤4000) {R:List (List UInt8)} (hR:R.length≤100000000) {nn:Bool} {N E:Int} {o1:Obj} {c:Nat} {Q:AA→Env→Ap→Prop}
 (hQ0:R=[]→∀c' tl,Q (.exit 4) ([(1,.ref 0 0 0 0),(2,.ref 1 1 0 0),(5,.ref 2 2 0 0)]++tl) ⟨[.arr 0 4 true true [g.av],o1,.arr 2 6 true true [.agg [.int .i64 N,.int .i64 E,.sl false [],.sl false [],.sl false [],.sl false []]]],c'⟩)
 (hQ1:R≠[]→∀c' ga gb gc n O I tl,n=R.length→IB g 1 R O→IB g 2 R I→Q (.exit 4) ([(1,.ref 0 0 0 0),(2,.ref 1 1 0 0),(5,.ref 2 2 0 0)]++tl) ⟨[.arr 0 4 true true [g.av],o1,.arr 2 6 true false [.agg [.int .i64 N,.int .i64 E,.sl false [],.own 3 ga 0 n,.own 4 gb 0 n,.own 5 gc 0 n]],.arr ga 2 true true (vs CN.av (cnts (BU g.edges) R)),.arr gb 1 true true (vs GY O),.arr gc 1 true true (vs GY I)],c'⟩):
 Run (Ad tab) (.loop l32_3_h l32_3_b) [(1,.ref 0 0 0 0),(2,.ref 1 1 0 0),(5,.ref 2 2 0 0),(59,.sl nn (vs .str R)),(60,.int .i64 R.length),(61,.int .i64 0)] ⟨[.arr 0 4 true true [g.av],o1,.arr 2 6 true true [.agg [.int .i64 N,.int .i64 E,.sl false [],.sl false [],.sl false [],.sl false []]]],c⟩ Q:=by
 refine Ae (fun m env s=>∃(i c:Nat),m=R.length-i∧i≤R.length∧env=[(1,.ref 0 0 0 0),(2,.ref 1 1 0 0),(5,.ref 2 2 0 0),(59,.sl nn (vs .str R)),(60,.int .i64 R.length),(61,.int .i64 i)]∧
  (i=0∧s=⟨[.arr 0 4 true true [g.av],o1,.arr 2 6 true true [.agg [.int .i64 N,.int .i64 E,.sl false [],.sl false [],.sl false [],.sl false []]]],c⟩∨
   0<i∧∃ga gb gc n na nb nc L O I,n=i∧L=cnts (BU g.edges) (R.take i)∧IB g 1 (R.take i) O∧IB g 2 (R.take i) I∧na=n∧nb=n∧nc=n∧n=L.length∧n=O.length∧n=I.length∧s=⟨[.arr 0 4 true true [g.av],o1,.arr 2 6 true false [.agg [.int .i64 N,.int .i64 E,.sl false [],.own 3 ga 0 na,.own 4 gb 0 nb,.own 5 gc 0 nc]],.arr ga 2 true true (vs CN.av L),.arr gb 1 true true (vs GY O),.arr gc 1 true true (vs GY I)],c⟩)) ?_ _ _ _ ⟨0,c,rfl,by omega,rfl,.inl ⟨rfl,rfl⟩⟩
 rintro _ _ _ ⟨i,c,rfl,hi,rfl,h⟩
 rcases h with⟨rfl,rfl⟩|⟨hpos,ga,gb,gc,n,na,nb,nc,L,O,I,hni,U4,hO,hI,rfl,hb2,hc2,hn,hnO,hnI,rfl⟩
 ·refine⟨rfl,?_⟩
  by_cases hlt:0<R.length
  ·have hs:=@Eh (BU g.edges) R 0 hlt
   (conv=>whnf);repeat' (first  |(refine kA ?_;conv=>whnf)|(refine Br.mk (fun hc=>?_) fun hc=>?_<;>first|exact hc.elim|conv=>whnf)|(refine kB ?_))
   refine AoS hE ?_
   intro c' tl
   (conv=>whnf);repeat' (first|(refine Dc (l:=[]) (x:=(⟨R[0],BU g.edges R[0]⟩:CN)) Jj rfl (by simp) ?_;conv=>whnf)|(refine kA ?_;conv=>whnf)|(refine Br.mk (fun hc=>?_) fun hc=>?_<;>first|exact hc.elim|conv=>whnf)|(refine kB ?_))
   refine Aa (ZG (typ:=R[0]) (dir:=1) hN hE) ?_
   rintro _ ⟨b1,W1,rfl,w1,p1,z1⟩
   (conv=>whnf);repeat' (first|(refine Dc (l:=[]) (f:=GY) (x:=(b1,W1)) ED rfl (by simp) ?_;conv=>whnf)|(refine kA ?_;conv=>whnf)|(refine Br.mk (fun hc=>?_) fun hc=>?_<;>first|exact hc.elim|conv=>whnf)|(refine kB ?_))
   refine Aa (ZG (typ:=R[0]) (dir:=2) hN hE) ?_
   rintro _ ⟨b2,W2,rfl,w2,p2,z2⟩
   (conv=>whnf);repeat' (first|(refine Dc (l:=[]) (f:=GY) (x:=(b2,W2)) ED rfl (by simp) ?_;conv=>whnf)|(refine kA ?_;conv=>whnf)|(refine Br.mk (fun hc=>?_) fun hc=>?_<;>first|exact hc.elim|conv=>whnf)|(refine kB ?_))
   exact again.mk ⟨_,by omega,1,_,rfl,by omega,rfl,.inr ⟨by omega,_,_,_,_,_,_,_,_,_,_,rfl,hs.symm,EW (O:=[]) hlt ⟨rfl,fun p hp=>by simp at hp⟩ w1 p1 z1,EW (O:=[]) hlt ⟨rfl,fun p hp=>by simp at hp⟩ w2 p2 z2,rfl,rfl,rfl,rfl,rfl,rfl,rfl⟩⟩
  ·(conv=>whnf);repeat' (first  |(refine kA ?_;conv=>whnf)|(refine Br.mk (fun hc=>?_) fun hc=>?_<;>first|exact hc.elim|conv=>whnf)|(refine kB ?_))
   exact hQ0 (List.eq_nil_of_length_eq_zero (by omega)) _ _
 ·refine⟨rfl,?_⟩
  by_cases hlt:i<R.length
  ·have hs:=@Eh (BU g.edges) R i hlt
   (conv=>whnf);repeat' (first  |(refine kA ?_;conv=>whnf)|(refine Br.mk (fun hc=>?_) fun hc=>?_<;>first|exact hc.elim|conv=>whnf)|(refine kB ?_))
   refine AoT hE ?_
   intro c' tl
   (conv=>whnf);repeat' (first|(refine Dc (x:=(⟨R[i],BU g.edges R[i]⟩:CN)) Jj hn (by omega) ?_;conv=>whnf)|(refine kA ?_;conv=>whnf)|(refine Br.mk (fun hc=>?_) fun hc=>?_<;>first|exact hc.elim|conv=>whnf)|(refine kB ?_))
   refine Aa (ZG (typ:=R[i]) (dir:=1) hN hE) ?_
   rintro _ ⟨b1,W1,rfl,w1,p1,z1⟩
   (conv=>whnf);repeat' (first|(refine Dc (f:=GY) (x:=(b1,W1)) ED (by omega) (by omega) ?_;conv=>whnf)|(refine kA ?_;conv=>whnf)|(refine Br.mk (fun hc=>?_) fun hc=>?_<;>first|exact hc.elim|conv=>whnf)|(refine kB ?_))
   refine Aa (ZG (typ:=R[i]) (dir:=2) hN hE) ?_
   rintro _ ⟨b2,W2,rfl,w2,p2,z2⟩
   (conv=>whnf);repeat' (first|(refine Dc (f:=GY) (x:=(b2,W2)) ED (by omega) (by omega) ?_;conv=>whnf)|(refine kA ?_;conv=>whnf)|(refine Br.mk (fun hc=>?_) fun hc=>?_<;>first|exact hc.elim|conv=>whnf)|(refine kB ?_))
   rw[← U4]at hs
   exact again.mk ⟨_,by omega,i+1,_,rfl,by omega,rfl,.inr ⟨by omega,_,_,_,_,_,_,_,_,_,_,rfl,hs.symm,EW hlt hO w1 p1 z1,EW hlt hI w2 p2 z2,by first|omega|(simp;omega),by first|omega|(simp;omega),by first|omega|(simp;omega),by simp;omega,by simp;omega,by simp;omega,rfl⟩⟩
  ·rw[List.take_of_length_le (by omega)]at U4 hO hI
   subst hb2 hc2
   (conv=>whnf);repeat' (first  |(refine kA ?_;conv=>whnf)|(refine Br.mk (fun hc=>?_) fun hc=>?_<;>first|exact hc.elim|conv=>whnf)|(refine kB ?_))
   subst U4
   exact hQ1 (fun h=>by rw[h]at hlt;simp at hlt;rw[h]at hi;simp at hi;omega) _ _ _ _ _ _ _ _ (by omega) hO hI
set_option maxHeartbeats 1000000 in
theorem ArS {g:GG} (hN:g.nodes.length≤2000) (hE:g.edges.length≤4000) {R:List (List UInt8)} (hR:R.length≤100000000) {nn:Bool} {N E:Int} {o1:Obj} {o3:Obj} {g3 n3:Nat} {c:Nat} {Q:AA→Env→Ap→Prop}
 (hQ0:R=[]→∀c' tl,Q (.exit 4) ([(1,.ref 0 0 0 0),(2,.ref 1 1 0 0),(5,.ref 2 2 0 0)]++tl) ⟨[.arr 0 4 true true [g.av],o1,.arr 2 6 true false [.agg [.int .i64 N,.int .i64 E,.own 3 g3 0 n3,.sl false [],.sl false [],.sl false []]],o3],c'⟩)
 (hQ1:R≠[]→∀c' ga gb gc n O I tl,n=R.length→IB g 1 R O→IB g 2 R I→Q (.exit 4) ([(1,.ref 0 0 0 0),(2,.ref 1 1 0 0),(5,.ref 2 2 0 0)]++tl) ⟨[.arr 0 4 true true [g.av],o1,.arr 2 6 true false [.agg [.int .i64 N,.int .i64 E,.own 3 g3 0 n3,.own 4 ga 0 n,.own 5 gb 0 n,.own 6 gc 0 n]],o3,.arr ga 2 true true (vs CN.av (cnts (BU g.edges) R)),.arr gb 1 true true (vs GY O),.arr gc 1 true true (vs GY I)],c'⟩):
 Run (Ad tab) (.loop l32_3_h l32_3_b) [(1,.ref 0 0 0 0),(2,.ref 1 1 0 0),(5,.ref 2 2 0 0),(59,.sl nn (vs .str R)),(60,.int .i64 R.length),(61,.int .i64 0)] ⟨[.arr 0 4 true true [g.av],o1,.arr 2 6 true false [.agg [.int .i64 N,.int .i64 E,.own 3 g3 0 n3,.sl false [],.sl false [],.sl false []]],o3],c⟩ Q:=by
 refine Ae (fun m env s=>∃(i c:Nat),m=R.length-i∧i≤R.length∧env=[(1,.ref 0 0 0 0),(2,.ref 1 1 0 0),(5,.ref 2 2 0 0),(59,.sl nn (vs .str R)),(60,.int .i64 R.length),(61,.int .i64 i)]∧
  (i=0∧s=⟨[.arr 0 4 true true [g.av],o1,.arr 2 6 true false [.agg [.int .i64 N,.int .i64 E,.own 3 g3 0 n3,.sl false [],.sl false [],.sl false []]],o3],c⟩∨
   0<i∧∃ga gb gc n na nb nc L O I,n=i∧L=cnts (BU g.edges) (R.take i)∧IB g 1 (R.take i) O∧IB g 2 (R.take i) I∧na=n∧nb=n∧nc=n∧n=L.length∧n=O.length∧n=I.length∧s=⟨[.arr 0 4 true true [g.av],o1,.arr 2 6 true false [.agg [.int .i64 N,.int .i64 E,.own 3 g3 0 n3,.own 4 ga 0 na,.own 5 gb 0 nb,.own 6 gc 0 nc]],o3,.arr ga 2 true true (vs CN.av L),.arr gb 1 true true (vs GY O),.arr gc 1 true true (vs GY I)],c⟩)) ?_ _ _ _ ⟨0,c,rfl,by omega,rfl,.inl ⟨rfl,rfl⟩⟩
 rintro _ _ _ ⟨i,c,rfl,hi,rfl,h⟩
 rcases h with⟨rfl,rfl⟩|⟨hpos,ga,gb,gc,n,na,nb,nc,L,O,I,hni,U4,hO,hI,rfl,hb2,hc2,hn,hnO,hnI,rfl⟩
 ·refine⟨rfl,?_⟩
  by_cases hlt:0<R.length
  ·have hs:=@Eh (BU g.edges) R 0 hlt
   (conv=>whnf);repeat' (first  |(refine kA ?_;conv=>whnf)|(refine Br.mk (fun hc=>?_) fun hc=>?_<;>first|exact hc.elim|conv=>whnf)|(refine kB ?_))
   refine AoU hE ?_
   intro c' tl
   (conv=>whnf);repeat' (first|(refine Dc (l:=[]) (x:=(⟨R[0],BU g.edges R[0]⟩:CN)) Jj rfl (by simp) ?_;conv=>whnf)|(refine kA ?_;conv=>whnf)|(refine Br.mk (fun hc=>?_) fun hc=>?_<;>first|exact hc.elim|conv=>whnf)|(refine kB ?_))
   refine Aa (ZG (typ:=R[0]) (dir:=1) hN hE) ?_
   rintro _ ⟨b1,W1,rfl,w1,p1,z1⟩
   (conv=>whnf);repeat' (first|(refine Dc (l:=[]) (f:=GY) (x:=(b1,W1)) ED rfl (by simp) ?_;conv=>whnf)|(refine kA ?_;conv=>whnf)|(refine Br.mk (fun hc=>?_) fun hc=>?_<;>first|exact hc.elim|conv=>whnf)|(refine kB ?_))
   refine Aa (ZG (typ:=R[0]) (dir:=2) hN hE) ?_
   rintro _ ⟨b2,W2,rfl,w2,p2,z2⟩
   (conv=>whnf);repeat' (first|(refine Dc (l:=[]) (f:=GY) (x:=(b2,W2)) ED rfl (by simp) ?_;conv=>whnf)|(refine kA ?_;conv=>whnf)|(refine Br.mk (fun hc=>?_) fun hc=>?_<;>first|exact hc.elim|conv=>whnf)|(refine kB ?_))
   exact again.mk ⟨_,by omega,1,_,rfl,by omega,rfl,.inr ⟨by omega,_,_,_,_,_,_,_,_,_,_,rfl,hs.symm,EW (O:=[]) hlt ⟨rfl,fun p hp=>by simp at hp⟩ w1 p1 z1,EW (O:=[]) hlt ⟨rfl,fun p hp=>by simp at hp⟩ w2 p2 z2,rfl,rfl,rfl,rfl,rfl,rfl,rfl⟩⟩
  ·(conv=>whnf);repeat' (first  |(refine kA ?_;conv=>whnf)|(refine Br.mk (fun hc=>?_) fun hc=>?_<;>first|exact hc.elim|conv=>whnf)|(refine kB ?_))
   exact hQ0 (List.eq_nil_of_length_eq_zero (by omega)) _ _
 ·refine⟨rfl,?_⟩
  by_cases hlt:i<R.length
  ·have hs:=@Eh (BU g.edges) R i hlt
   (conv=>whnf);repeat' (first  |(refine kA ?_;conv=>whnf)|(refine Br.mk (fun hc=>?_) fun hc=>?_<;>first|exact hc.elim|conv=>whnf)|(refine kB ?_))
   refine AoV hE ?_
   intro c' tl
   (conv=>whnf);repeat' (first|(refine Dc (x:=(⟨R[i],BU g.edges R[i]⟩:CN)) Jj hn (by omega) ?_;conv=>whnf)|(refine kA ?_;conv=>whnf)|(refine Br.mk (fun hc=>?_) fun hc=>?_<;>first|exact hc.elim|conv=>whnf)|(refine kB ?_))
   refine Aa (ZG (typ:=R[i]) (dir:=1) hN hE) ?_
   rintro _ ⟨b1,W1,rfl,w1,p1,z1⟩
   (conv=>whnf);repeat' (first|(refine Dc (f:=GY) (x:=(b1,W1)) ED (by omega) (by omega) ?_;conv=>whnf)|(refine kA ?_;conv=>whnf)|(refine Br.mk (fun hc=>?_) fun hc=>?_<;>first|exact hc.elim|conv=>whnf)|(refine kB ?_))
   refine Aa (ZG (typ:=R[i]) (dir:=2) hN hE) ?_
   rintro _ ⟨b2,W2,rfl,w2,p2,z2⟩
   (conv=>whnf);repeat' (first|(refine Dc (f:=GY) (x:=(b2,W2)) ED (by omega) (by omega) ?_;conv=>whnf)|(refine kA ?_;conv=>whnf)|(refine Br.mk (fun hc=>?_) fun hc=>?_<;>first|exact hc.elim|conv=>whnf)|(refine kB ?_))
   rw[← U4]at hs
   exact again.mk ⟨_,by omega,i+1,_,rfl,by omega,rfl,.inr ⟨by omega,_,_,_,_,_,_,_,_,_,_,rfl,hs.symm,EW hlt hO w1 p1 z1,EW hlt hI w2 p2 z2,by first|omega|(simp;omega),by first|omega|(simp;omega),by first|omega|(simp;omega),by simp;omega,by simp;omega,by simp;omega,rfl⟩⟩
  ·rw[List.take_of_length_le (by omega)]at U4 hO hI
   subst hb2 hc2
   (conv=>whnf);repeat' (first  |(refine kA ?_;conv=>whnf)|(refine Br.mk (fun hc=>?_) fun hc=>?_<;>first|exact hc.elim|conv=>whnf)|(refine kB ?_))
   subst U4
   exact hQ1 (fun h=>by rw[h]at hlt;simp at hlt;rw[h]at hi;simp at hi;omega) _ _ _ _ _ _ _ _ (by omega) hO hI
structure ST where
 nodes:Int
 edges:Int
 ln:Bool
 labels:List CN
 tn:Bool
 types:List CN
 on:Bool
 outs:List (Bool×List Int)
 nn:Bool
 ins:List (Bool×List Int)
def ST.av (s:ST):AV:=.agg [.int .i64 s.nodes,.int .i64 s.edges,.sl s.ln (vs CN.av s.labels),.sl s.tn (vs CN.av s.types),.sl s.on (vs GY s.outs),.sl s.nn (vs GY s.ins)]
def Lns (l:List (Bool×List Int)):Prop:=Ln l∧∀p∈l,Ln p.2
def ST.ok (s:ST):Prop:=I64 s.nodes∧I64 s.edges∧Ln s.labels∧Ln s.types∧Lns s.outs∧Lns s.ins
theorem Akd:Tryz.prog.cellsOf 89=2:=by kernel_rfl
theorem AhW:Tryz.prog.cellsOf 43=1:=by kernel_rfl
theorem Ake:Tryz.prog.cellsOf 44=1:=by kernel_rfl
theorem Akf:Tryz.prog.cellsOf 46=6:=by kernel_rfl
theorem len2 {l:List AV} (h:l.length=2):∃a b,l=[a,b]:=by
 rcases l with _|⟨a,_|⟨b,_|⟨c,r⟩⟩⟩<;>simp at h
 exact⟨a,b,rfl⟩
theorem Ant {d:Nat} {a:AV} (h:like Tryz.prog d 3 a):∃n,a=.int .i64 n∧I64 n:=by
 obtain⟨k,e1,h1⟩:=U9 Tryz.underlying3 h
 exact⟨k,e1,AhX h1⟩
theorem WH {d:Nat} {a:AV} (h:like Tryz.prog d 89 a):∃v:CN,a=v.av∧True:=by
 obtain⟨cs,rfl,h0⟩:=EU Tryz.underlying89 h
 obtain⟨d',rfl,g1,g2⟩:=Ep Tryz.underlying89 h0
 rw[Akd]at g1
 obtain⟨a,b,rfl⟩:=len2 g1
 clear g1
 simp only[List.forall_mem_cons]at g2
 obtain⟨f1,f2,_⟩:=g2
 simp only[WI,Oz,List.drop_zero,List.drop_succ_cons,List.take_succ_cons,List.take_zero]at f1 f2
 obtain⟨s,e1,_⟩:=Q8 f1
 obtain⟨n,e2,_⟩:=EF f2
 cases e1;cases e2
 exact⟨⟨s,n⟩,rfl,trivial⟩
theorem Yf {d:Nat} {a:AV} (h:like Tryz.prog d 38 a):∃p:Bool×List Int,a=GY p∧Ln p.2:=by
 obtain⟨nn,l,rfl,_,h2,_⟩:=ZY (f:=AV.int .i64) (Q:=I64) Tryz.underlying38 (fun d x h=>Ant h) h
 exact⟨(nn,l),rfl,Yg h2⟩
theorem Ab9 {a:AV} (h:Like Tryz.prog 46 a):∃v:ST,a=v.av∧v.ok:=by
 obtain⟨d,h⟩:=h
 obtain⟨cs,rfl,h0⟩:=EU Tryz.underlying46 h
 obtain⟨d',rfl,g1,g2⟩:=Ep Tryz.underlying46 h0
 rw[Akf]at g1
 obtain⟨a,b,c,d,e,f,rfl⟩:=Anu g1
 clear g1
 simp only[List.forall_mem_cons]at g2
 obtain⟨f1,f2,f3,f4,f5,f6,_⟩:=g2
 simp only[WI,AhW,Ake,List.drop_zero,List.drop_succ_cons,List.take_succ_cons,List.take_zero]at f1 f2 f3 f4 f5 f6
 obtain⟨k,e1,h1⟩:=EF f1
 obtain⟨n,e2,h2⟩:=EF f2
 obtain⟨n3,l3,e3,_,h3,_⟩:=Gz (f:=CN.av) (Q:=fun _=>True) Tryz.underlying43 (fun d x h=>WH h) f3
 obtain⟨n4,l4,e4,_,h4,_⟩:=Gz (f:=CN.av) (Q:=fun _=>True) Tryz.underlying43 (fun d x h=>WH h) f4
 obtain⟨n5,l5,e5,_,h5,h5b⟩:=Gz (f:=GY) (Q:=fun p=>Ln p.2) Tryz.underlying44 (fun d x h=>Yf h) f5
 obtain⟨n6,l6,e6,_,h6,h6b⟩:=Gz (f:=GY) (Q:=fun p=>Ln p.2) Tryz.underlying44 (fun d x h=>Yf h) f6
 cases e1;cases e2;cases e3;cases e4;cases e5;cases e6
 exact⟨⟨k,n,n3,l3,n4,l4,n5,l5,n6,l6⟩,rfl,h1,h2,h3,h4,⟨h5,h5b⟩,h6,h6b⟩
def ST.eqv (a b:ST):Prop:=a.nodes=b.nodes∧a.edges=b.edges∧a.labels=b.labels∧a.types=b.types∧a.outs.map Prod.snd=b.outs.map Prod.snd∧a.ins.map Prod.snd=b.ins.map Prod.snd
noncomputable instance (a b:ST):Decidable (a.eqv b):=Classical.propDecidable _
instance:DecidableEq CN:=fun a b=>by
 obtain⟨x,y⟩:=a
 obtain⟨z,w⟩:=b
 exact if h:x=z∧y=w then isTrue (by rw[h.1,h.2])else isFalse (fun e=>by cases e;exact h ⟨rfl,rfl⟩)
theorem ST.eqv.trans {a b c:ST} (h:a.eqv b) (k:b.eqv c):a.eqv c:=⟨h.1.trans k.1,h.2.1.trans k.2.1,h.2.2.1.trans k.2.2.1,h.2.2.2.1.trans k.2.2.2.1,h.2.2.2.2.1.trans k.2.2.2.2.1,h.2.2.2.2.2.trans k.2.2.2.2.2⟩
theorem ST.eqv.symm {a b:ST} (h:a.eqv b):b.eqv a:=⟨h.1.symm,h.2.1.symm,h.2.2.1.symm,h.2.2.2.1.symm,h.2.2.2.2.1.symm,h.2.2.2.2.2.symm⟩
theorem Ak4 {c d:CN} (h:c=d):bin .neq (.flat [.str,.int]) c.av d.av=some (.bool false):=by
 subst h
 simp[bin,Aa2,KY,DR,CN.av]
theorem Ak5 {c d:CN} (h:c≠d):bin .neq (.flat [.str,.int]) c.av d.av=some (.bool true):=by
 obtain⟨x,y⟩:=c
 obtain⟨z,w⟩:=d
 by_cases e:x=z
 ·have e2:y≠w:=fun e2=>h (by rw[e,e2])
  have e3:(y==w)=false:=by simpa using e2
  simp[bin,Aa2,KY,DR,CN.av,e,e3]
 ·have e3:(x==z)=false:=by simpa using e
  simp[bin,Aa2,KY,DR,CN.av,e3]
theorem YM {α:Type} {a b:List α} (hl:a.length=b.length) {i:Nat} (hi:a.length≤i) (h:∀k (h1:k<a.length) (h2:k<b.length),k<i→a[k]=b[k]):a=b:=
 List.ext_getElem hl fun k h1 h2=>h k h1 h2 (by omega)
theorem Qr {α:Type} {a b:List α} {i:Nat} (h1:i<a.length) (h2:i<b.length) (e:a[i]=b[i]) (h:∀k (h1:k<a.length) (h2:k<b.length),k<i→a[k]=b[k]):∀k (h1:k<a.length) (h2:k<b.length),k<i+1→a[k]=b[k]:=by
 intro k k1 k2 hk
 by_cases ek:k=i
 ·subst ek;exact e
 ·exact h k k1 k2 (by omega)
theorem YL {α:Type} {a b:List α} {i:Nat} (h1:i<a.length) (h2:i<b.length) (e:a[i]≠b[i]):a≠b:=fun h=>by subst h;exact e rfl
end AI
end Go.Proofs.YtceiccjppfapjaaGreatDoor
