/- A list sorted: the reference's. Sorting (slices.SortFunc[[]int,int]), leaving out what repeats (none). Degrees of nodes: plain. Degree sequences: the program's. Degree sequences: the reference's; both, of any graph. degree.Of: the loop over the types. Statistics as data, and when two are the same. When statistics are the same: the program's way and the reference's. -/
import Derived.Test.YthnehejdkajjhaaGreatDoorUMad
import Derived.Test.YthnehejdkajjhaaGreatDoorUMae
import Derived.Test.YthnehejdkajjhaaGreatDoorUMaf
import Derived.Test.YthnehejdkajjhaaGreatDoorUSu
import Derived.Test.YthnehejdkajjhaaGreatDoorUCk8
import Derived.Test.YthnehejdkajjhaaGreatDoorUMag
import Derived.Test.YthnehejdkajjhaaGreatDoorBMab
set_option linter.unusedVariables false
set_option maxRecDepth 4000
namespace Go.Proofs.YthnehejdkajjhaaGreatDoor
namespace AI
end AI
end Go.Proofs.YthnehejdkajjhaaGreatDoor
set_option linter.unusedVariables false
namespace Go.Proofs.YthnehejdkajjhaaGreatDoor
namespace AI
open Go.Sort
theorem Aoc {Ap CO:Obj} {g len c:Nat} {nn cl:Bool} {L:List Int} (hl:L.length=len) (hs:len<2^61):
 Am (Ac tab) 101 [.own 2 g 0 len,.fn 102 []] ⟨[Ap,CO,.arr g 1 nn cl (vs (.int .i64) L)],c⟩ fun out s'=>∃c' W,out=.ok (.BG [])∧s'=⟨[Ap,CO,.arr g 1 nn cl (vs (.int .i64) W)],c'⟩∧W.Perm L∧W.Pairwise (fun x y=>DN y x=false):=by
 have hb:bitsLen len≤62:=(bitsLen_le_iff len 62).2 (by omega)
 refine Ah rfl rfl ?_
 (conv=>whnf);repeat' (first|(refine wrapN len rfl rfl (by show _<2^64;omega) ?_;conv=>whnf)|(refine Aa (OJ (n:=len) (by omega)) ?_;rintro _ rfl;conv=>whnf)|(refine kA ?_;conv=>whnf)|(refine Br.mk (fun hc=>?_) fun hc=>?_<;>first|exact hc.elim|conv=>whnf)|(refine kB ?_))
 refine(AkE hl hs (by omega) (by omega)).mono ?_
 rintro _ _ ⟨c',W,rfl,rfl,h1,h2⟩
 conv=>whnf
 apply Ae rfl
 (conv=>whnf);repeat' (first  |(refine kA ?_;conv=>whnf)|(refine Br.mk (fun hc=>?_) fun hc=>?_<;>first|exact hc.elim|conv=>whnf)|(refine kB ?_))
 exact⟨_,W,rfl,rfl,h1,h2⟩
end AI
end Go.Proofs.YthnehejdkajjhaaGreatDoor
set_option linter.unusedVariables false
namespace Go.Proofs.YthnehejdkajjhaaGreatDoor
namespace AI
def hits (typ:List UInt8) (dir n:Int) (e:GE):Prop:=(typ=[]∨e.ty=typ)∧(dir=1∧e.fr=n∨dir=2∧e.to=n)
instance (typ:List UInt8) (dir n:Int) (e:GE):Decidable (hits typ dir n e):=by unfold hits;infer_instance
def XV (typ:List UInt8) (dir n:Int) (e:GE):Int:=if hits typ dir n e then 1 else 0
def MH (typ:List UInt8) (dir:Int) (E:List GE) (n:Int):Int:=EU (E.map (XV typ dir n))
theorem Yp {typ:List UInt8} {dir n:Int} {E:List GE} {i:Nat} (h:i<E.length):MH typ dir (E.take (i+1)) n=MH typ dir (E.take i) n+XV typ dir n E[i]:=PN h
theorem WO {typ:List UInt8} {dir n:Int} {E:List GE}:0≤MH typ dir E n∧MH typ dir E n≤E.length:=by
 have:=KA (l:=E) (f:=XV typ dir n) (c:=1) fun x _=>by unfold XV;split<;>omega
 unfold MH;omega
def Oe (typ:List UInt8) (dir:Int) (N:List GN) (E:List GE):List Int:=(N.map fun n=>MH typ dir E n.id).filter (fun x=>decide (0<x))
theorem Afj {typ:List UInt8} {dir:Int} {N:List GN} {E:List GE} {i:Nat} (h:i<N.length):
 Oe typ dir (N.take (i+1)) E=Oe typ dir (N.take i) E++(if 0<MH typ dir E (N[i]).id then[MH typ dir E (N[i]).id]else[]):=by
 unfold Oe
 rw[List.take_succ_eq_append_getElem h,List.map_append,List.filter_append]
 congr 1
 by_cases hd:0<MH typ dir E (N[i]).id
 ·rw[if_pos hd];simp[hd]
 ·rw[if_neg hd];simp[hd]
theorem Agj {typ:List UInt8} {dir:Int} {N:List GN} {E:List GE}:(Oe typ dir N E).length≤N.length:=by
 unfold Oe
 have:=List.length_filter_le (fun x=>decide (0<x)) (N.map fun n=>MH typ dir E n.id)
 simpa using this
end AI
end Go.Proofs.YthnehejdkajjhaaGreatDoor
set_option linter.unusedVariables false
namespace Go.Proofs.YthnehejdkajjhaaGreatDoor
namespace AI
theorem AkF {W:List Int} (h:W.Pairwise (fun x y=>DN y x=false)):desc W:=List.Pairwise.imp (fun h=>by have:=Vz.1 h;omega) h
def QC (dir:Int):Int:=if dir=1 then 1 else 2
theorem AuJ {typ:List UInt8} {dir:Int} {e:GE} (ht:typ=[]∨e.ty=typ) (hd:dir=1) (n:Int):XV typ (QC dir) n e=if n=e.fr then 1 else 0:=by
 rw[show QC dir=1 from if_pos hd]
 by_cases h:n=e.fr
 ·rw[if_pos h];exact if_pos ⟨ht,.inl ⟨rfl,h.symm⟩⟩
 ·rw[if_neg h];exact if_neg fun hh=>by have:=hh.2;omega
theorem hit2 {typ:List UInt8} {dir:Int} {e:GE} (ht:typ=[]∨e.ty=typ) (hd:¬dir=1) (n:Int):XV typ (QC dir) n e=if n=e.to then 1 else 0:=by
 rw[show QC dir=2 from if_neg hd]
 by_cases h:n=e.to
 ·rw[if_pos h];exact if_pos ⟨ht,.inr ⟨rfl,h.symm⟩⟩
 ·rw[if_neg h];exact if_neg fun hh=>by have:=hh.2;omega
theorem hit0 {typ:List UInt8} {dir:Int} {e:GE} (ht:¬typ=[]) (ht2:¬e.ty=typ) (n:Int):XV typ dir n e=0:=if_neg fun h=>h.1.elim ht ht2
set_option maxHeartbeats 1000000 in
theorem Aod {g:GG} (hl:g.edges.length≤4000) {typ:List UInt8} {dir:Int} {c gm:Nat} {Q:Aw→Env→Aq→Prop}
 (hQ:∀c' M tl,(∀ n,(JU M n).getD 0=MH typ (QC dir) g.edges n)→Q (.exit 0) ([(1,.str typ),(2,.int .i64 dir),(3,.ref 0 0 0 0),(7,.map 1 gm)]++tl) ⟨[.arr 0 4 true true [g.av],.mp gm true (Yq M)],c'⟩):
 Run (Ac tab) (.loop l55_0_h l55_0_b) [(1,.str typ),(2,.int .i64 dir),(3,.ref 0 0 0 0),(7,.map 1 gm),(16,.sl g.en (vs GE.av g.edges)),(17,.int .i64 g.edges.length),(18,.int .i64 0)] ⟨[.arr 0 4 true true [g.av],.mp gm true []],c⟩ Q:=by
 refine Af (fun m env s=>∃(i c:Nat) (M:List (Int×Int)),m=g.edges.length-i∧i≤g.edges.length∧(∀ n,(JU M n).getD 0=MH typ (QC dir) (g.edges.take i) n)∧env=[(1,.str typ),(2,.int .i64 dir),(3,.ref 0 0 0 0),(7,.map 1 gm),(16,.sl g.en (vs GE.av g.edges)),(17,.int .i64 g.edges.length),(18,.int .i64 i)]∧s=⟨[.arr 0 4 true true [g.av],.mp gm true (Yq M)],c⟩) ?_ _ _ _ ⟨0,c,[],rfl,by omega,fun n=>rfl,rfl,rfl⟩
 rintro _ _ _ ⟨i,c,M,rfl,hi,hM,rfl,rfl⟩
 refine⟨rfl,?_⟩
 by_cases hlt:i<g.edges.length
 ·have hb:∀n,0≤(JU M n).getD 0∧(JU M n).getD 0≤4000:=fun n=>by
   rw[hM];have:=@WO typ (QC dir) n (g.edges.take i);rw[List.length_take]at this;omega
  have b1:=hb (g.edges[i]).fr
  have b2:=hb (g.edges[i]).to
  have hstep:∀(k v:Int) (hk:∀n,XV typ (QC dir) n g.edges[i]=if n=k then 1 else 0) (hv:v=(JU M k).getD 0+1),∀n,(JU (UW M k v) n).getD 0=MH typ (QC dir) (g.edges.take (i+1)) n:=by
   intro k v hk hv n
   rw[Yp hlt,←hM,hk,Afk]
   by_cases hn:n=k
   ·rw[if_pos hn,if_pos hn,hn,hv];rfl
   ·rw[if_neg hn,if_neg hn,Int.add_zero]
  have MI:(¬ typ=[])→(¬ (g.edges[i]).ty=typ)→∀n,(JU M n).getD 0=MH typ (QC dir) (g.edges.take (i+1)) n:=by
   intro h1 h2 n
   rw[Yp hlt,←hM,hit0 h1 h2,Int.add_zero]
  (conv=>whnf);repeat' (first|(refine fkI (fun hm=>?_) (fun _ v hm=>?_)<;>(simp only[hm,Option.getD_none,Option.getD_some]at b1 b2)<;>conv=>whnf)|(apply msI;conv=>whnf)|(refine kA ?_;conv=>whnf)|(refine Br.mk (fun hc=>?_) fun hc=>?_<;>first|exact hc.elim|conv=>whnf)|(refine kB ?_))
  all_goals first
   |exact again.mk ⟨_,by omega,i+1,_,_,rfl,by omega,hstep _ _ (AuJ (by first|(left;assumption)|(right;assumption)) (by assumption)) (by rw[hm];rfl),rfl,rfl⟩
   |exact again.mk ⟨_,by omega,i+1,_,_,rfl,by omega,hstep _ _ (hit2 (by first|(left;assumption)|(right;assumption)) (by assumption)) (by rw[hm];rfl),rfl,rfl⟩
   |exact again.mk ⟨_,by omega,i+1,_,M,rfl,by omega,MI (by assumption) (by assumption),rfl,rfl⟩
 ·rw[List.take_of_length_le (by omega)]at hM
  (conv=>whnf);repeat' (first  |(refine kA ?_;conv=>whnf)|(refine Br.mk (fun hc=>?_) fun hc=>?_<;>first|exact hc.elim|conv=>whnf)|(refine kB ?_))
  exact hQ _ _ _ hM
set_option maxHeartbeats 1000000 in
theorem Abe {g:GG} (hN:g.nodes.length≤2000) (hl:g.edges.length≤4000) {typ:List UInt8} {dir:Int}:Ag (Ac tab) 55 [g.av,.str typ,.int .i64 dir] (fun v=>∃b W,v=.sl b (vi W)∧desc W∧W.Perm (Oe typ (QC dir) g.nodes g.edges)∧(b=false→W=[])):=by
 refine Ad rfl rfl ?_
 (conv=>whnf);repeat' (first  |(refine kA ?_;conv=>whnf)|(refine Br.mk (fun hc=>?_) fun hc=>?_<;>first|exact hc.elim|conv=>whnf)|(refine kB ?_))
 refine Aod hl ?_
 intro c0 M tl hM
 (conv=>whnf);repeat' (first  |(refine kA ?_;conv=>whnf)|(refine Br.mk (fun hc=>?_) fun hc=>?_<;>first|exact hc.elim|conv=>whnf)|(refine kB ?_))
 refine Af (fun m env s=>∃(i c go n gm:Nat) (b:Bool) (L:List Int),m=g.nodes.length-i∧i≤g.nodes.length∧L=Oe typ (QC dir) (g.nodes.take i) g.edges∧n=L.length∧n≤i∧(b=false→L=[])∧env=[(7,.map 1 gm),(10,.own 2 go 0 n),(44,.sl g.nn (vs GN.av g.nodes)),(45,.int .i64 g.nodes.length),(46,.int .i64 i)]∧s=⟨[.arr 0 4 true true [g.av],.mp gm true (Yq M),.arr go 1 b true (vi L)],c⟩) ?_ _ _ _ ⟨0,_,_,0,_,_,[],rfl,by omega,rfl,rfl,by omega,fun _=>rfl,rfl,rfl⟩
 rintro _ _ _ ⟨i,c,go,n,gm,b,L,rfl,hi,hL,hn,hni,hnil,rfl,rfl⟩
 refine⟨rfl,?_⟩
 by_cases hlt:i<g.nodes.length
 ·have hs:=@Afj typ (QC dir) g.nodes g.edges i hlt
  have hd:=hM (g.nodes[i]).id
  rw[← hd,←hL]at hs
  have hfin:∀z,z=(JU M (g.nodes[i]).id).getD 0→0<z→L++[z]=Oe typ (QC dir) (g.nodes.take (i+1)) g.edges:=fun z hz h=>by rw[hs,←hz,if_pos h]
  have Ara:∀z,z=(JU M (g.nodes[i]).id).getD 0→¬0<z→L=Oe typ (QC dir) (g.nodes.take (i+1)) g.edges:=fun z hz h=>by rw[hs,←hz,if_neg h,List.append_nil]
  (conv=>whnf);repeat' (first|(refine fkI (fun hm=>?_) (fun _ v hm=>?_)<;>conv=>whnf)|(refine Dt (x:=v) AL hn (by omega) ?_;conv=>whnf)|(refine kA ?_;conv=>whnf)|(refine Br.mk (fun hc=>?_) fun hc=>?_<;>first|exact hc.elim|conv=>whnf)|(refine kB ?_))
  all_goals first
   |exact again.mk ⟨_,by omega,i+1,_,_,_,_,_,_,rfl,by omega,hfin _ (by simp[hm]) (by assumption),by simp,by omega,fun h=>Bool.noConfusion h,rfl,rfl⟩
   |exact again.mk ⟨_,by omega,i+1,_,_,n,_,_,L,rfl,by omega,Ara _ rfl (by simp only[hm,Option.getD_none,Option.getD_some];first|assumption|omega),hn,by omega,hnil,rfl,rfl⟩
 ·rw[List.take_of_length_le (by omega)]at hL
  (conv=>whnf);repeat' (first  |(refine kA ?_;conv=>whnf)|(refine Br.mk (fun hc=>?_) fun hc=>?_<;>first|exact hc.elim|conv=>whnf)|(refine kB ?_))
  refine(Aoc (L:=L) hn.symm (by omega)).mono ?_
  rintro _ _ ⟨c1,W,rfl,rfl,h1,h2⟩
  have hw:W.length=n:=by rw[h1.length_eq,hn]
  conv=>whnf
  apply Ae rfl
  (conv=>whnf);repeat' (first  |(refine kA ?_;conv=>whnf)|(refine Br.mk (fun hc=>?_) fun hc=>?_<;>first|exact hc.elim|conv=>whnf)|(refine kB ?_))
  refine⟨b,W,?_,AkF h2,by rw[← hL];exact h1,fun h=>by have:=hnil h;subst this;exact h1.eq_nil⟩
  rw[Ik,List.drop_zero,List.take_of_length_le (by omega)]
end AI
end Go.Proofs.YthnehejdkajjhaaGreatDoor
set_option linter.unusedVariables false
namespace Go.Proofs.YthnehejdkajjhaaGreatDoor
namespace AI
end AI
end Go.Proofs.YthnehejdkajjhaaGreatDoor
set_option linter.unusedVariables false
namespace Go.Proofs.YthnehejdkajjhaaGreatDoor
namespace AI
def Ol (g:GG) (dir:Int) (x:List UInt8):List Int:=sortB id (Oe x dir g.nodes g.edges)
theorem Ak1 {g:GG} {dir:Int} {x:List UInt8} {W:List Int} (h1:desc W) (h2:W.Perm (Oe x dir g.nodes g.edges)):W=Ol g dir x:=
 UA (h2.trans (MW (k:=id)).symm) h1 Qx
def LV (p:Bool×List Int):AV:=.sl p.1 (vi p.2)
theorem Lh:∀p,(LV p).cells.length=1:=fun _=>rfl
def IQ (g:GG) (dir:Int) (R:List (List UInt8)) (O:List (Bool×List Int)):Prop:=O.map Prod.snd=R.map (Ol g dir)∧∀p∈O,p.1=false→p.2=[]
theorem FB {g:GG} {dir:Int} {R:List (List UInt8)} {O:List (Bool×List Int)} {i:Nat} (hi:i<R.length) (h:IQ g dir (R.take i) O) {b:Bool} {W:List Int} (h1:desc W) (h2:W.Perm (Oe R[i] dir g.nodes g.edges)) (h3:b=false→W=[]):
 IQ g dir (R.take (i+1)) (O++[(b,W)]):=by
 refine⟨?_,fun p hp=>?_⟩
 ·rw[List.take_succ_eq_append_getElem hi,List.map_append,List.map_append,h.1,Ak1 h1 h2];rfl
 ·rcases List.mem_append.1 hp with hp|hp
  ·exact h.2 p hp
  ·obtain rfl:=List.mem_singleton.1 hp;exact h3
theorem MX {g:GG} {dir:Int} {R:List (List UInt8)} {O:List (Bool×List Int)} (h:IQ g dir R O):O.length=R.length:=by
 have:=congrArg List.length h.1
 simpa using this
set_option maxHeartbeats 1000000 in
theorem Aud {g:GG} (hN:g.nodes.length≤2000) (hE:g.edges.length≤4000) {R:List (List UInt8)} (hR:R.length≤100000000) {nn:Bool} {N E:Int} {o1:Obj} {c:Nat} {Q:Aw→Env→Aq→Prop}
 (hQ0:R=[]→∀c' tl,Q (.exit 4) ([(1,.ref 0 0 0 0),(2,.ref 1 1 0 0),(5,.ref 2 2 0 0)]++tl) ⟨[.arr 0 4 true true [g.av],o1,.arr 2 6 true true [.agg [.int .i64 N,.int .i64 E,.sl false [],.sl false [],.sl false [],.sl false []]]],c'⟩)
 (hQ1:R≠[]→∀c' ga gb gc n O I tl,n=R.length→IQ g 1 R O→IQ g 2 R I→Q (.exit 4) ([(1,.ref 0 0 0 0),(2,.ref 1 1 0 0),(5,.ref 2 2 0 0)]++tl) ⟨[.arr 0 4 true true [g.av],o1,.arr 2 6 true false [.agg [.int .i64 N,.int .i64 E,.sl false [],.own 3 ga 0 n,.own 4 gb 0 n,.own 5 gc 0 n]],.arr ga 2 true true (vs CN.av (cnts (Em g.edges) R)),.arr gb 1 true true (vs LV O),.arr gc 1 true true (vs LV I)],c'⟩):
 Run (Ac tab) (.loop l25_3_h l25_3_b) [(1,.ref 0 0 0 0),(2,.ref 1 1 0 0),(5,.ref 2 2 0 0),(59,.sl nn (vs .str R)),(60,.int .i64 R.length),(61,.int .i64 0)] ⟨[.arr 0 4 true true [g.av],o1,.arr 2 6 true true [.agg [.int .i64 N,.int .i64 E,.sl false [],.sl false [],.sl false [],.sl false []]]],c⟩ Q:=by
 refine Af (fun m env s=>∃(i c:Nat),m=R.length-i∧i≤R.length∧env=[(1,.ref 0 0 0 0),(2,.ref 1 1 0 0),(5,.ref 2 2 0 0),(59,.sl nn (vs .str R)),(60,.int .i64 R.length),(61,.int .i64 i)]∧
  (i=0∧s=⟨[.arr 0 4 true true [g.av],o1,.arr 2 6 true true [.agg [.int .i64 N,.int .i64 E,.sl false [],.sl false [],.sl false [],.sl false []]]],c⟩∨
   0<i∧∃ga gb gc n na nb nc L O I,n=i∧L=cnts (Em g.edges) (R.take i)∧IQ g 1 (R.take i) O∧IQ g 2 (R.take i) I∧na=n∧nb=n∧nc=n∧n=L.length∧n=O.length∧n=I.length∧s=⟨[.arr 0 4 true true [g.av],o1,.arr 2 6 true false [.agg [.int .i64 N,.int .i64 E,.sl false [],.own 3 ga 0 na,.own 4 gb 0 nb,.own 5 gc 0 nc]],.arr ga 2 true true (vs CN.av L),.arr gb 1 true true (vs LV O),.arr gc 1 true true (vs LV I)],c⟩)) ?_ _ _ _ ⟨0,c,rfl,by omega,rfl,.inl ⟨rfl,rfl⟩⟩
 rintro _ _ _ ⟨i,c,rfl,hi,rfl,h⟩
 rcases h with⟨rfl,rfl⟩|⟨hpos,ga,gb,gc,n,na,nb,nc,L,O,I,hni,hLe,hO,hI,rfl,hb2,hc2,hn,hnO,hnI,rfl⟩
 ·refine⟨rfl,?_⟩
  by_cases hlt:0<R.length
  ·have hs:=@J3 (Em g.edges) R 0 hlt
   (conv=>whnf);repeat' (first  |(refine kA ?_;conv=>whnf)|(refine Br.mk (fun hc=>?_) fun hc=>?_<;>first|exact hc.elim|conv=>whnf)|(refine kB ?_))
   refine ArB hE ?_
   intro c' tl
   (conv=>whnf);repeat' (first|(refine Dt (l:=[]) (x:=(⟨R[0],Em g.edges R[0]⟩:CN)) Tq rfl (by simp) ?_;conv=>whnf)|(refine kA ?_;conv=>whnf)|(refine Br.mk (fun hc=>?_) fun hc=>?_<;>first|exact hc.elim|conv=>whnf)|(refine kB ?_))
   refine Aa (Abe (typ:=R[0]) (dir:=1) hN hE) ?_
   rintro _ ⟨b1,W1,rfl,w1,p1,z1⟩
   (conv=>whnf);repeat' (first|(refine Dt (l:=[]) (f:=LV) (x:=(b1,W1)) Lh rfl (by simp) ?_;conv=>whnf)|(refine kA ?_;conv=>whnf)|(refine Br.mk (fun hc=>?_) fun hc=>?_<;>first|exact hc.elim|conv=>whnf)|(refine kB ?_))
   refine Aa (Abe (typ:=R[0]) (dir:=2) hN hE) ?_
   rintro _ ⟨b2,W2,rfl,w2,p2,z2⟩
   (conv=>whnf);repeat' (first|(refine Dt (l:=[]) (f:=LV) (x:=(b2,W2)) Lh rfl (by simp) ?_;conv=>whnf)|(refine kA ?_;conv=>whnf)|(refine Br.mk (fun hc=>?_) fun hc=>?_<;>first|exact hc.elim|conv=>whnf)|(refine kB ?_))
   exact again.mk ⟨_,by omega,1,_,rfl,by omega,rfl,.inr ⟨by omega,_,_,_,_,_,_,_,_,_,_,rfl,hs.symm,FB (O:=[]) hlt ⟨rfl,fun p hp=>by simp at hp⟩ w1 p1 z1,FB (O:=[]) hlt ⟨rfl,fun p hp=>by simp at hp⟩ w2 p2 z2,rfl,rfl,rfl,rfl,rfl,rfl,rfl⟩⟩
  ·(conv=>whnf);repeat' (first  |(refine kA ?_;conv=>whnf)|(refine Br.mk (fun hc=>?_) fun hc=>?_<;>first|exact hc.elim|conv=>whnf)|(refine kB ?_))
   exact hQ0 (List.eq_nil_of_length_eq_zero (by omega)) _ _
 ·refine⟨rfl,?_⟩
  by_cases hlt:i<R.length
  ·have hs:=@J3 (Em g.edges) R i hlt
   (conv=>whnf);repeat' (first  |(refine kA ?_;conv=>whnf)|(refine Br.mk (fun hc=>?_) fun hc=>?_<;>first|exact hc.elim|conv=>whnf)|(refine kB ?_))
   refine ArC hE ?_
   intro c' tl
   (conv=>whnf);repeat' (first|(refine Dt (x:=(⟨R[i],Em g.edges R[i]⟩:CN)) Tq hn (by omega) ?_;conv=>whnf)|(refine kA ?_;conv=>whnf)|(refine Br.mk (fun hc=>?_) fun hc=>?_<;>first|exact hc.elim|conv=>whnf)|(refine kB ?_))
   refine Aa (Abe (typ:=R[i]) (dir:=1) hN hE) ?_
   rintro _ ⟨b1,W1,rfl,w1,p1,z1⟩
   (conv=>whnf);repeat' (first|(refine Dt (f:=LV) (x:=(b1,W1)) Lh (by omega) (by omega) ?_;conv=>whnf)|(refine kA ?_;conv=>whnf)|(refine Br.mk (fun hc=>?_) fun hc=>?_<;>first|exact hc.elim|conv=>whnf)|(refine kB ?_))
   refine Aa (Abe (typ:=R[i]) (dir:=2) hN hE) ?_
   rintro _ ⟨b2,W2,rfl,w2,p2,z2⟩
   (conv=>whnf);repeat' (first|(refine Dt (f:=LV) (x:=(b2,W2)) Lh (by omega) (by omega) ?_;conv=>whnf)|(refine kA ?_;conv=>whnf)|(refine Br.mk (fun hc=>?_) fun hc=>?_<;>first|exact hc.elim|conv=>whnf)|(refine kB ?_))
   rw[← hLe]at hs
   exact again.mk ⟨_,by omega,i+1,_,rfl,by omega,rfl,.inr ⟨by omega,_,_,_,_,_,_,_,_,_,_,rfl,hs.symm,FB hlt hO w1 p1 z1,FB hlt hI w2 p2 z2,by first|omega|(simp;omega),by first|omega|(simp;omega),by first|omega|(simp;omega),by simp;omega,by simp;omega,by simp;omega,rfl⟩⟩
  ·rw[List.take_of_length_le (by omega)]at hLe hO hI
   subst hb2 hc2
   (conv=>whnf);repeat' (first  |(refine kA ?_;conv=>whnf)|(refine Br.mk (fun hc=>?_) fun hc=>?_<;>first|exact hc.elim|conv=>whnf)|(refine kB ?_))
   subst hLe
   exact hQ1 (fun h=>by rw[h]at hlt;simp at hlt;rw[h]at hi;simp at hi;omega) _ _ _ _ _ _ _ _ (by omega) hO hI
set_option maxHeartbeats 1000000 in
theorem Aue {g:GG} (hN:g.nodes.length≤2000) (hE:g.edges.length≤4000) {R:List (List UInt8)} (hR:R.length≤100000000) {nn:Bool} {N E:Int} {o1:Obj} {o3:Obj} {g3 n3:Nat} {c:Nat} {Q:Aw→Env→Aq→Prop}
 (hQ0:R=[]→∀c' tl,Q (.exit 4) ([(1,.ref 0 0 0 0),(2,.ref 1 1 0 0),(5,.ref 2 2 0 0)]++tl) ⟨[.arr 0 4 true true [g.av],o1,.arr 2 6 true false [.agg [.int .i64 N,.int .i64 E,.own 3 g3 0 n3,.sl false [],.sl false [],.sl false []]],o3],c'⟩)
 (hQ1:R≠[]→∀c' ga gb gc n O I tl,n=R.length→IQ g 1 R O→IQ g 2 R I→Q (.exit 4) ([(1,.ref 0 0 0 0),(2,.ref 1 1 0 0),(5,.ref 2 2 0 0)]++tl) ⟨[.arr 0 4 true true [g.av],o1,.arr 2 6 true false [.agg [.int .i64 N,.int .i64 E,.own 3 g3 0 n3,.own 4 ga 0 n,.own 5 gb 0 n,.own 6 gc 0 n]],o3,.arr ga 2 true true (vs CN.av (cnts (Em g.edges) R)),.arr gb 1 true true (vs LV O),.arr gc 1 true true (vs LV I)],c'⟩):
 Run (Ac tab) (.loop l25_3_h l25_3_b) [(1,.ref 0 0 0 0),(2,.ref 1 1 0 0),(5,.ref 2 2 0 0),(59,.sl nn (vs .str R)),(60,.int .i64 R.length),(61,.int .i64 0)] ⟨[.arr 0 4 true true [g.av],o1,.arr 2 6 true false [.agg [.int .i64 N,.int .i64 E,.own 3 g3 0 n3,.sl false [],.sl false [],.sl false []]],o3],c⟩ Q:=by
 refine Af (fun m env s=>∃(i c:Nat),m=R.length-i∧i≤R.length∧env=[(1,.ref 0 0 0 0),(2,.ref 1 1 0 0),(5,.ref 2 2 0 0),(59,.sl nn (vs .str R)),(60,.int .i64 R.length),(61,.int .i64 i)]∧
  (i=0∧s=⟨[.arr 0 4 true true [g.av],o1,.arr 2 6 true false [.agg [.int .i64 N,.int .i64 E,.own 3 g3 0 n3,.sl false [],.sl false [],.sl false []]],o3],c⟩∨
   0<i∧∃ga gb gc n na nb nc L O I,n=i∧L=cnts (Em g.edges) (R.take i)∧IQ g 1 (R.take i) O∧IQ g 2 (R.take i) I∧na=n∧nb=n∧nc=n∧n=L.length∧n=O.length∧n=I.length∧s=⟨[.arr 0 4 true true [g.av],o1,.arr 2 6 true false [.agg [.int .i64 N,.int .i64 E,.own 3 g3 0 n3,.own 4 ga 0 na,.own 5 gb 0 nb,.own 6 gc 0 nc]],o3,.arr ga 2 true true (vs CN.av L),.arr gb 1 true true (vs LV O),.arr gc 1 true true (vs LV I)],c⟩)) ?_ _ _ _ ⟨0,c,rfl,by omega,rfl,.inl ⟨rfl,rfl⟩⟩
 rintro _ _ _ ⟨i,c,rfl,hi,rfl,h⟩
 rcases h with⟨rfl,rfl⟩|⟨hpos,ga,gb,gc,n,na,nb,nc,L,O,I,hni,hLe,hO,hI,rfl,hb2,hc2,hn,hnO,hnI,rfl⟩
 ·refine⟨rfl,?_⟩
  by_cases hlt:0<R.length
  ·have hs:=@J3 (Em g.edges) R 0 hlt
   (conv=>whnf);repeat' (first  |(refine kA ?_;conv=>whnf)|(refine Br.mk (fun hc=>?_) fun hc=>?_<;>first|exact hc.elim|conv=>whnf)|(refine kB ?_))
   refine ArD hE ?_
   intro c' tl
   (conv=>whnf);repeat' (first|(refine Dt (l:=[]) (x:=(⟨R[0],Em g.edges R[0]⟩:CN)) Tq rfl (by simp) ?_;conv=>whnf)|(refine kA ?_;conv=>whnf)|(refine Br.mk (fun hc=>?_) fun hc=>?_<;>first|exact hc.elim|conv=>whnf)|(refine kB ?_))
   refine Aa (Abe (typ:=R[0]) (dir:=1) hN hE) ?_
   rintro _ ⟨b1,W1,rfl,w1,p1,z1⟩
   (conv=>whnf);repeat' (first|(refine Dt (l:=[]) (f:=LV) (x:=(b1,W1)) Lh rfl (by simp) ?_;conv=>whnf)|(refine kA ?_;conv=>whnf)|(refine Br.mk (fun hc=>?_) fun hc=>?_<;>first|exact hc.elim|conv=>whnf)|(refine kB ?_))
   refine Aa (Abe (typ:=R[0]) (dir:=2) hN hE) ?_
   rintro _ ⟨b2,W2,rfl,w2,p2,z2⟩
   (conv=>whnf);repeat' (first|(refine Dt (l:=[]) (f:=LV) (x:=(b2,W2)) Lh rfl (by simp) ?_;conv=>whnf)|(refine kA ?_;conv=>whnf)|(refine Br.mk (fun hc=>?_) fun hc=>?_<;>first|exact hc.elim|conv=>whnf)|(refine kB ?_))
   exact again.mk ⟨_,by omega,1,_,rfl,by omega,rfl,.inr ⟨by omega,_,_,_,_,_,_,_,_,_,_,rfl,hs.symm,FB (O:=[]) hlt ⟨rfl,fun p hp=>by simp at hp⟩ w1 p1 z1,FB (O:=[]) hlt ⟨rfl,fun p hp=>by simp at hp⟩ w2 p2 z2,rfl,rfl,rfl,rfl,rfl,rfl,rfl⟩⟩
  ·(conv=>whnf);repeat' (first  |(refine kA ?_;conv=>whnf)|(refine Br.mk (fun hc=>?_) fun hc=>?_<;>first|exact hc.elim|conv=>whnf)|(refine kB ?_))
   exact hQ0 (List.eq_nil_of_length_eq_zero (by omega)) _ _
 ·refine⟨rfl,?_⟩
  by_cases hlt:i<R.length
  ·have hs:=@J3 (Em g.edges) R i hlt
   (conv=>whnf);repeat' (first  |(refine kA ?_;conv=>whnf)|(refine Br.mk (fun hc=>?_) fun hc=>?_<;>first|exact hc.elim|conv=>whnf)|(refine kB ?_))
   refine ArE hE ?_
   intro c' tl
   (conv=>whnf);repeat' (first|(refine Dt (x:=(⟨R[i],Em g.edges R[i]⟩:CN)) Tq hn (by omega) ?_;conv=>whnf)|(refine kA ?_;conv=>whnf)|(refine Br.mk (fun hc=>?_) fun hc=>?_<;>first|exact hc.elim|conv=>whnf)|(refine kB ?_))
   refine Aa (Abe (typ:=R[i]) (dir:=1) hN hE) ?_
   rintro _ ⟨b1,W1,rfl,w1,p1,z1⟩
   (conv=>whnf);repeat' (first|(refine Dt (f:=LV) (x:=(b1,W1)) Lh (by omega) (by omega) ?_;conv=>whnf)|(refine kA ?_;conv=>whnf)|(refine Br.mk (fun hc=>?_) fun hc=>?_<;>first|exact hc.elim|conv=>whnf)|(refine kB ?_))
   refine Aa (Abe (typ:=R[i]) (dir:=2) hN hE) ?_
   rintro _ ⟨b2,W2,rfl,w2,p2,z2⟩
   (conv=>whnf);repeat' (first|(refine Dt (f:=LV) (x:=(b2,W2)) Lh (by omega) (by omega) ?_;conv=>whnf)|(refine kA ?_;conv=>whnf)|(refine Br.mk (fun hc=>?_) fun hc=>?_<;>first|exact hc.elim|conv=>whnf)|(refine kB ?_))
   rw[← hLe]at hs
   exact again.mk ⟨_,by omega,i+1,_,rfl,by omega,rfl,.inr ⟨by omega,_,_,_,_,_,_,_,_,_,_,rfl,hs.symm,FB hlt hO w1 p1 z1,FB hlt hI w2 p2 z2,by first|omega|(simp;omega),by first|omega|(simp;omega),by first|omega|(simp;omega),by simp;omega,by simp;omega,by simp;omega,rfl⟩⟩
  ·rw[List.take_of_length_le (by omega)]at hLe hO hI
   subst hb2 hc2
   (conv=>whnf);repeat' (first  |(refine kA ?_;conv=>whnf)|(refine Br.mk (fun hc=>?_) fun hc=>?_<;>first|exact hc.elim|conv=>whnf)|(refine kB ?_))
   subst hLe
   exact hQ1 (fun h=>by rw[h]at hlt;simp at hlt;rw[h]at hi;simp at hi;omega) _ _ _ _ _ _ _ _ (by omega) hO hI
structure ST where
 nodes:Int
 edges:Int
 ln:Bool
 labels:List CN
 tn:Bool
 types:List CN
 on:Bool
 outs:List (Bool×List Int)
 nn:Bool
 ins:List (Bool×List Int)
def ST.av (s:ST):AV:=.agg [.int .i64 s.nodes,.int .i64 s.edges,.sl s.ln (vs CN.av s.labels),.sl s.tn (vs CN.av s.types),.sl s.on (vs LV s.outs),.sl s.nn (vs LV s.ins)]
def Lns (l:List (Bool×List Int)):Prop:=Ln l∧∀p∈l,Ln p.2
def ST.ok (s:ST):Prop:=I64 s.nodes∧I64 s.edges∧Ln s.labels∧Ln s.types∧Lns s.outs∧Lns s.ins
def ST.eqv (a b:ST):Prop:=a.nodes=b.nodes∧a.edges=b.edges∧a.labels=b.labels∧a.types=b.types∧a.outs.map Prod.snd=b.outs.map Prod.snd∧a.ins.map Prod.snd=b.ins.map Prod.snd
noncomputable instance (a b:ST):Decidable (a.eqv b):=Classical.propDecidable _
instance:DecidableEq CN:=fun a b=>by
 obtain⟨x,y⟩:=a
 obtain⟨z,w⟩:=b
 exact if h:x=z∧y=w then isTrue (by rw[h.1,h.2])else isFalse (fun e=>by cases e;exact h ⟨rfl,rfl⟩)
theorem ST.eqv.trans {a b c:ST} (h:a.eqv b) (k:b.eqv c):a.eqv c:=⟨h.1.trans k.1,h.2.1.trans k.2.1,h.2.2.1.trans k.2.2.1,h.2.2.2.1.trans k.2.2.2.1,h.2.2.2.2.1.trans k.2.2.2.2.1,h.2.2.2.2.2.trans k.2.2.2.2.2⟩
theorem ST.eqv.symm {a b:ST} (h:a.eqv b):b.eqv a:=⟨h.1.symm,h.2.1.symm,h.2.2.1.symm,h.2.2.2.1.symm,h.2.2.2.2.1.symm,h.2.2.2.2.2.symm⟩
theorem Amn {c d:CN} (h:c=d):bin .neq (.flat [.str,.int]) c.av d.av=some (.bool false):=by
 subst h
 simp[bin,AbM,LJ,Ee,CN.av]
theorem Amo {c d:CN} (h:c≠d):bin .neq (.flat [.str,.int]) c.av d.av=some (.bool true):=by
 obtain⟨x,y⟩:=c
 obtain⟨z,w⟩:=d
 by_cases e:x=z
 ·have e2:y≠w:=fun e2=>h (by rw[e,e2])
  have e3:(y==w)=false:=by simpa using e2
  simp[bin,AbM,LJ,Ee,CN.av,e,e3]
 ·have e3:(x==z)=false:=by simpa using e
  simp[bin,AbM,LJ,Ee,CN.av,e3]
theorem Zo {α:Type} {a b:List α} (hl:a.length=b.length) {i:Nat} (hi:a.length≤i) (h:∀k (h1:k<a.length) (h2:k<b.length),k<i→a[k]=b[k]):a=b:=
 List.ext_getElem hl fun k h1 h2=>h k h1 h2 (by omega)
theorem Q8 {α:Type} {a b:List α} {i:Nat} (h1:i<a.length) (h2:i<b.length) (e:a[i]=b[i]) (h:∀k (h1:k<a.length) (h2:k<b.length),k<i→a[k]=b[k]):∀k (h1:k<a.length) (h2:k<b.length),k<i+1→a[k]=b[k]:=by
 intro k k1 k2 hk
 by_cases ek:k=i
 ·subst ek;exact e
 ·exact h k k1 k2 (by omega)
theorem Zn {α:Type} {a b:List α} {i:Nat} (h1:i<a.length) (h2:i<b.length) (e:a[i]≠b[i]):a≠b:=fun h=>by subst h;exact e rfl
theorem Yd {α β:Type} {f:α→β} {l m:List α} (hl:l.length=m.length) (h:∀k (h1:k<l.length) (h2:k<m.length),f l[k]=f m[k]):l.map f=m.map f:=
 List.ext_getElem (by simp[hl]) fun k h1 h2=>by simpa using h k (by simpa using h1) (by simpa using h2)
theorem Ye {α β:Type} {f:α→β} {l m:List α} {i:Nat} (h1:i<l.length) (h2:i<m.length) (e:f l[i]≠f m[i]):l.map f≠m.map f:=fun h=>by
 have h3:(l.map f)[i]'(by simpa using h1)=(m.map f)[i]'(by simpa using h2):=by simp only[h]
 simp only[List.getElem_map]at h3
 exact e h3
theorem AdH {α β:Type} {f:α→β} {l m:List α} (h:l.map f=m.map f):l.length=m.length:=by have:=congrArg List.length h;simpa using this
theorem AnD {l m:List Int} {nl nm:Bool} (hl:l.length<2^62) (hm:m.length<2^62):Ag (Ac tab) 105 [.sl nl (vi l),.sl nm (vi m)] (· =.bool (decide (l=m))):=by
 by_cases hlen:l.length=m.length
 case neg=>
  refine Ad rfl rfl ?_
  (conv=>whnf);repeat' (first  |(refine kA ?_;conv=>whnf)|(refine Br.mk (fun hc=>?_) fun hc=>?_<;>first|exact hc.elim|conv=>whnf)|(refine kB ?_))
  all_goals first|exact Ar (fun h=>hlen (congrArg List.length h))|(exfalso;omega)
 refine Ad rfl rfl ?_
 (conv=>whnf);repeat' (first  |(refine kA ?_;conv=>whnf)|(refine Br.mk (fun hc=>?_) fun hc=>?_<;>first|exact hc.elim|conv=>whnf)|(refine kB ?_))
 all_goals first|(exfalso;omega)|skip
 refine Af (fun z env s=>∃(i:Nat),z=l.length-i∧(∀ k (h:k<l.length) (h':k<m.length),k<i→l[k]=m[k])∧env=[(0,.sl nl (vi l)),(1,.sl nm (vi m)),(12,.int .i64 l.length),(13,.int .i64 i)]∧s=⟨[],0⟩) ?_ _ _ _ ⟨0,rfl,fun _ _ _ h=>absurd h (by omega),by first|rfl|(rw [← lV (f:=AV.int .i64) l];rfl),rfl⟩
 rintro _ _ _ ⟨i,rfl,hx,rfl,rfl⟩
 refine⟨rfl,?_⟩
 by_cases hlt:i<l.length
 ·by_cases he:l[i]=m[i]
  ·(conv=>whnf);repeat' (first  |(refine kA ?_;conv=>whnf)|(refine Br.mk (fun hc=>?_) fun hc=>?_<;>first|exact hc.elim|conv=>whnf)|(refine kB ?_))
   all_goals first|exact again.mk ⟨_,by omega,i+1,rfl,Q8 hlt (by omega) he hx,rfl,rfl⟩|(exfalso;omega)|exact absurd he (by assumption)|(exfalso;simp_all;done)
  ·(conv=>whnf);repeat' (first  |(refine kA ?_;conv=>whnf)|(refine Br.mk (fun hc=>?_) fun hc=>?_<;>first|exact hc.elim|conv=>whnf)|(refine kB ?_))
   all_goals first|exact Ar (Zn hlt (by omega) he)|(exfalso;omega)|exact absurd (by assumption) he|(exfalso;simp_all;done)
 ·(conv=>whnf);repeat' (first  |(refine kA ?_;conv=>whnf)|(refine Br.mk (fun hc=>?_) fun hc=>?_<;>first|exact hc.elim|conv=>whnf)|(refine kB ?_))
  all_goals first|exact Bh (Zo hlen (by omega) hx)|(exfalso;omega)
theorem AaK {l m:List CN} {nl nm:Bool} (hl:l.length<2^62) (hm:m.length<2^62):Ag (Ac tab) 103 [.sl nl (vs CN.av l),.sl nm (vs CN.av m)] (· =.bool (decide (l=m))):=by
 by_cases hlen:l.length=m.length
 case neg=>
  refine Ad rfl rfl ?_
  (conv=>whnf);repeat' (first  |(refine kA ?_;conv=>whnf)|(refine Br.mk (fun hc=>?_) fun hc=>?_<;>first|exact hc.elim|conv=>whnf)|(refine kB ?_))
  all_goals first|exact Ar (fun h=>hlen (congrArg List.length h))|(exfalso;omega)
 refine Ad rfl rfl ?_
 (conv=>whnf);repeat' (first  |(refine kA ?_;conv=>whnf)|(refine Br.mk (fun hc=>?_) fun hc=>?_<;>first|exact hc.elim|conv=>whnf)|(refine kB ?_))
 all_goals first|(exfalso;omega)|skip
 refine Af (fun z env s=>∃(i:Nat),z=l.length-i∧(∀ k (h:k<l.length) (h':k<m.length),k<i→l[k]=m[k])∧env=[(0,.sl nl (vs CN.av l)),(1,.sl nm (vs CN.av m)),(12,.int .i64 l.length),(13,.int .i64 i)]∧s=⟨[],0⟩) ?_ _ _ _ ⟨0,rfl,fun _ _ _ h=>absurd h (by omega),by first|rfl|(rw [← lV (f:=CN.av) l];rfl),rfl⟩
 rintro _ _ _ ⟨i,rfl,hx,rfl,rfl⟩
 refine⟨rfl,?_⟩
 by_cases hlt:i<l.length
 ·by_cases he:l[i]=m[i]
  ·(conv=>whnf);repeat' (first|(apply Ae (Amn he);conv=>whnf)|(refine kA ?_;conv=>whnf)|(refine Br.mk (fun hc=>?_) fun hc=>?_<;>first|exact hc.elim|conv=>whnf)|(refine kB ?_))
   all_goals first|exact again.mk ⟨_,by omega,i+1,rfl,Q8 hlt (by omega) he hx,rfl,rfl⟩|(exfalso;omega)|exact absurd he (by assumption)|(exfalso;simp_all;done)
  ·(conv=>whnf);repeat' (first|(apply Ae (Amo he);conv=>whnf)|(refine kA ?_;conv=>whnf)|(refine Br.mk (fun hc=>?_) fun hc=>?_<;>first|exact hc.elim|conv=>whnf)|(refine kB ?_))
   all_goals first|exact Ar (Zn hlt (by omega) he)|(exfalso;omega)|exact absurd (by assumption) he|(exfalso;simp_all;done)
 ·(conv=>whnf);repeat' (first  |(refine kA ?_;conv=>whnf)|(refine Br.mk (fun hc=>?_) fun hc=>?_<;>first|exact hc.elim|conv=>whnf)|(refine kB ?_))
  all_goals first|exact Bh (Zo hlen (by omega) hx)|(exfalso;omega)
theorem AnE {l m:List Int} {nl nm:Bool} (hl:l.length<2^62) (hm:m.length<2^62):Ag (Ac tab) 48 [.sl nl (vi l),.sl nm (vi m)] (· =.bool (decide (l=m))):=by
 by_cases hlen:l.length=m.length
 case neg=>
  refine Ad rfl rfl ?_
  (conv=>whnf);repeat' (first  |(refine kA ?_;conv=>whnf)|(refine Br.mk (fun hc=>?_) fun hc=>?_<;>first|exact hc.elim|conv=>whnf)|(refine kB ?_))
  all_goals first|exact Ar (fun h=>hlen (congrArg List.length h))|(exfalso;omega)
 refine Ad rfl rfl ?_
 (conv=>whnf);repeat' (first  |(refine kA ?_;conv=>whnf)|(refine Br.mk (fun hc=>?_) fun hc=>?_<;>first|exact hc.elim|conv=>whnf)|(refine kB ?_))
 all_goals first|(exfalso;omega)|skip
 refine Af (fun z env s=>∃(i:Nat),z=l.length-i∧(∀ k (h:k<l.length) (h':k<m.length),k<i→l[k]=m[k])∧env=[(0,.sl nl (vi l)),(1,.sl nm (vi m)),(5,.int .i64 i)]∧s=⟨[],0⟩) ?_ _ _ _ ⟨0,rfl,fun _ _ _ h=>absurd h (by omega),by first|rfl|(rw [← lV (f:=AV.int .i64) l];rfl),rfl⟩
 rintro _ _ _ ⟨i,rfl,hx,rfl,rfl⟩
 refine⟨rfl,?_⟩
 by_cases hlt:i<l.length
 ·by_cases he:l[i]=m[i]
  ·(conv=>whnf);repeat' (first  |(refine kA ?_;conv=>whnf)|(refine Br.mk (fun hc=>?_) fun hc=>?_<;>first|exact hc.elim|conv=>whnf)|(refine kB ?_))
   all_goals first|exact again.mk ⟨_,by omega,i+1,rfl,Q8 hlt (by omega) he hx,rfl,rfl⟩|(exfalso;omega)|exact absurd he (by assumption)|(exfalso;simp_all;done)
  ·(conv=>whnf);repeat' (first  |(refine kA ?_;conv=>whnf)|(refine Br.mk (fun hc=>?_) fun hc=>?_<;>first|exact hc.elim|conv=>whnf)|(refine kB ?_))
   all_goals first|exact Ar (Zn hlt (by omega) he)|(exfalso;omega)|exact absurd (by assumption) he|(exfalso;simp_all;done)
 ·(conv=>whnf);repeat' (first  |(refine kA ?_;conv=>whnf)|(refine Br.mk (fun hc=>?_) fun hc=>?_<;>first|exact hc.elim|conv=>whnf)|(refine kB ?_))
  all_goals first|exact Bh (Zo hlen (by omega) hx)|(exfalso;omega)
theorem AaL {l m:List CN} {nl nm:Bool} (hl:l.length<2^62) (hm:m.length<2^62):Ag (Ac tab) 58 [.sl nl (vs CN.av l),.sl nm (vs CN.av m)] (· =.bool (decide (l=m))):=by
 by_cases hlen:l.length=m.length
 case neg=>
  refine Ad rfl rfl ?_
  (conv=>whnf);repeat' (first  |(refine kA ?_;conv=>whnf)|(refine Br.mk (fun hc=>?_) fun hc=>?_<;>first|exact hc.elim|conv=>whnf)|(refine kB ?_))
  all_goals first|exact Ar (fun h=>hlen (congrArg List.length h))|(exfalso;omega)
 refine Ad rfl rfl ?_
 (conv=>whnf);repeat' (first  |(refine kA ?_;conv=>whnf)|(refine Br.mk (fun hc=>?_) fun hc=>?_<;>first|exact hc.elim|conv=>whnf)|(refine kB ?_))
 all_goals first|(exfalso;omega)|skip
 refine Af (fun z env s=>∃(i:Nat),z=l.length-i∧(∀ k (h:k<l.length) (h':k<m.length),k<i→l[k]=m[k])∧env=[(0,.sl nl (vs CN.av l)),(1,.sl nm (vs CN.av m)),(5,.int .i64 i)]∧s=⟨[],0⟩) ?_ _ _ _ ⟨0,rfl,fun _ _ _ h=>absurd h (by omega),by first|rfl|(rw [← lV (f:=CN.av) l];rfl),rfl⟩
 rintro _ _ _ ⟨i,rfl,hx,rfl,rfl⟩
 refine⟨rfl,?_⟩
 by_cases hlt:i<l.length
 ·by_cases he:l[i]=m[i]
  ·(conv=>whnf);repeat' (first|(apply Ae (Amn he);conv=>whnf)|(refine kA ?_;conv=>whnf)|(refine Br.mk (fun hc=>?_) fun hc=>?_<;>first|exact hc.elim|conv=>whnf)|(refine kB ?_))
   all_goals first|exact again.mk ⟨_,by omega,i+1,rfl,Q8 hlt (by omega) he hx,rfl,rfl⟩|(exfalso;omega)|exact absurd he (by assumption)|(exfalso;simp_all;done)
  ·(conv=>whnf);repeat' (first|(apply Ae (Amo he);conv=>whnf)|(refine kA ?_;conv=>whnf)|(refine Br.mk (fun hc=>?_) fun hc=>?_<;>first|exact hc.elim|conv=>whnf)|(refine kB ?_))
   all_goals first|exact Ar (Zn hlt (by omega) he)|(exfalso;omega)|exact absurd (by assumption) he|(exfalso;simp_all;done)
 ·(conv=>whnf);repeat' (first  |(refine kA ?_;conv=>whnf)|(refine Br.mk (fun hc=>?_) fun hc=>?_<;>first|exact hc.elim|conv=>whnf)|(refine kB ?_))
  all_goals first|exact Bh (Zo hlen (by omega) hx)|(exfalso;omega)
theorem AdI {l m:List (Bool×List Int)} {nl nm:Bool} (hl:l.length<2^62) (hm:m.length<2^62) (hl2:∀p∈l,p.2.length<2^62) (hm2:∀p∈m,p.2.length<2^62):Ag (Ac tab) 104 [.sl nl (vs LV l),.sl nm (vs LV m),.fn 105 []] (· =.bool (decide (l.map Prod.snd=m.map Prod.snd))):=by
 by_cases hlen:l.length=m.length
 case neg=>
  refine Ad rfl rfl ?_
  (conv=>whnf);repeat' (first  |(refine kA ?_;conv=>whnf)|(refine Br.mk (fun hc=>?_) fun hc=>?_<;>first|exact hc.elim|conv=>whnf)|(refine kB ?_))
  all_goals first|exact Ar (fun h=>hlen (AdH h))|(exfalso;omega)
 refine Ad rfl rfl ?_
 (conv=>whnf);repeat' (first  |(refine kA ?_;conv=>whnf)|(refine Br.mk (fun hc=>?_) fun hc=>?_<;>first|exact hc.elim|conv=>whnf)|(refine kB ?_))
 all_goals first|(exfalso;omega)|skip
 refine Af (fun z env s=>∃(i c:Nat),z=l.length-i∧(∀ k (h:k<l.length) (h':k<m.length),k<i→(l[k]).2=(m[k]).2)∧env=[(1,.sl nm (vs LV m)),(2,.fn 105 []),(15,.sl nl (vs LV l)),(16,.int .i64 l.length),(17,.int .i64 i)]∧s=⟨[],c⟩) ?_ _ _ _ ⟨0,_,rfl,fun _ _ _ h=>absurd h (by omega),by first|rfl|(rw [← lV (f:=LV) l];rfl),rfl⟩
 rintro _ _ _ ⟨i,c,rfl,hx,rfl,rfl⟩
 refine⟨rfl,?_⟩
 by_cases hlt:i<l.length
 ·have hcf:=AnD (nl:=(l[i]).1) (nm:=(m[i]'(by omega)).1) (hl2 _ (List.getElem_mem hlt)) (hm2 _ (List.getElem_mem (show i<m.length by omega)))
  by_cases he:(l[i]).2=(m[i]'(by omega)).2
  ·rw[decide_eq_true he]at hcf
   (conv=>whnf);repeat' (first|(refine Aa hcf ?_;rintro _ rfl;conv=>whnf)|(refine kA ?_;conv=>whnf)|(refine Br.mk (fun hc=>?_) fun hc=>?_<;>first|exact hc.elim|conv=>whnf)|(refine kB ?_))
   all_goals first|exact again.mk ⟨_,by omega,i+1,_,rfl,fun k h1 h2 hk=>(by
    by_cases ek:k=i
    ·subst ek;exact he
    ·exact hx k h1 h2 (by omega)),rfl,rfl⟩|(exfalso;omega)
  ·rw[decide_eq_false he]at hcf
   (conv=>whnf);repeat' (first|(refine Aa hcf ?_;rintro _ rfl;conv=>whnf)|(refine kA ?_;conv=>whnf)|(refine Br.mk (fun hc=>?_) fun hc=>?_<;>first|exact hc.elim|conv=>whnf)|(refine kB ?_))
   all_goals first|exact Ar (Ye hlt (by omega) he)|(exfalso;omega)
 ·(conv=>whnf);repeat' (first  |(refine kA ?_;conv=>whnf)|(refine Br.mk (fun hc=>?_) fun hc=>?_<;>first|exact hc.elim|conv=>whnf)|(refine kB ?_))
  all_goals first|exact Bh (Yd hlen fun k h1 h2=>hx k h1 h2 (by omega))|(exfalso;omega)
theorem AdJ {l m:List (Bool×List Int)} {nl nm:Bool} (hl:l.length<2^62) (hm:m.length<2^62) (hl2:∀p∈l,p.2.length<2^62) (hm2:∀p∈m,p.2.length<2^62):Ag (Ac tab) 59 [.sl nl (vs LV l),.sl nm (vs LV m)] (· =.bool (decide (l.map Prod.snd=m.map Prod.snd))):=by
 by_cases hlen:l.length=m.length
 case neg=>
  refine Ad rfl rfl ?_
  (conv=>whnf);repeat' (first  |(refine kA ?_;conv=>whnf)|(refine Br.mk (fun hc=>?_) fun hc=>?_<;>first|exact hc.elim|conv=>whnf)|(refine kB ?_))
  all_goals first|exact Ar (fun h=>hlen (AdH h))|(exfalso;omega)
 refine Ad rfl rfl ?_
 (conv=>whnf);repeat' (first  |(refine kA ?_;conv=>whnf)|(refine Br.mk (fun hc=>?_) fun hc=>?_<;>first|exact hc.elim|conv=>whnf)|(refine kB ?_))
 all_goals first|(exfalso;omega)|skip
 refine Af (fun z env s=>∃(i c:Nat),z=l.length-i∧(∀ k (h:k<l.length) (h':k<m.length),k<i→(l[k]).2=(m[k]).2)∧env=[(0,.sl nl (vs LV l)),(1,.sl nm (vs LV m)),(5,.int .i64 i)]∧s=⟨[],c⟩) ?_ _ _ _ ⟨0,_,rfl,fun _ _ _ h=>absurd h (by omega),by first|rfl|(rw [← lV (f:=LV) l];rfl),rfl⟩
 rintro _ _ _ ⟨i,c,rfl,hx,rfl,rfl⟩
 refine⟨rfl,?_⟩
 by_cases hlt:i<l.length
 ·have hcf:=AnE (nl:=(l[i]).1) (nm:=(m[i]'(by omega)).1) (hl2 _ (List.getElem_mem hlt)) (hm2 _ (List.getElem_mem (show i<m.length by omega)))
  by_cases he:(l[i]).2=(m[i]'(by omega)).2
  ·rw[decide_eq_true he]at hcf
   (conv=>whnf);repeat' (first|(refine Aa hcf ?_;rintro _ rfl;conv=>whnf)|(refine kA ?_;conv=>whnf)|(refine Br.mk (fun hc=>?_) fun hc=>?_<;>first|exact hc.elim|conv=>whnf)|(refine kB ?_))
   all_goals first|exact again.mk ⟨_,by omega,i+1,_,rfl,fun k h1 h2 hk=>(by
    by_cases ek:k=i
    ·subst ek;exact he
    ·exact hx k h1 h2 (by omega)),rfl,rfl⟩|(exfalso;omega)
  ·rw[decide_eq_false he]at hcf
   (conv=>whnf);repeat' (first|(refine Aa hcf ?_;rintro _ rfl;conv=>whnf)|(refine kA ?_;conv=>whnf)|(refine Br.mk (fun hc=>?_) fun hc=>?_<;>first|exact hc.elim|conv=>whnf)|(refine kB ?_))
   all_goals first|exact Ar (Ye hlt (by omega) he)|(exfalso;omega)
 ·(conv=>whnf);repeat' (first  |(refine kA ?_;conv=>whnf)|(refine Br.mk (fun hc=>?_) fun hc=>?_<;>first|exact hc.elim|conv=>whnf)|(refine kB ?_))
  all_goals first|exact Bh (Yd hlen fun k h1 h2=>hx k h1 h2 (by omega))|(exfalso;omega)
def ST.fine (s:ST):Prop:=s.labels.length<2^62∧s.types.length<2^62∧s.outs.length<2^62∧s.ins.length<2^62∧(∀ p∈s.outs,p.2.length<2^62)∧∀p∈s.ins,p.2.length<2^62
theorem Aqz {a b:ST} (ha:a.fine) (hb:b.fine):Ag (Ac tab) 56 [a.av,b.av] (· =.bool (decide (a.eqv b))):=by
 have h3:=AaK (nl:=a.ln) (nm:=b.ln) ha.1 hb.1
 have h4:=AaK (nl:=a.tn) (nm:=b.tn) ha.2.1 hb.2.1
 have h5:=AdI (nl:=a.on) (nm:=b.on) ha.2.2.1 hb.2.2.1 ha.2.2.2.2.1 hb.2.2.2.2.1
 have h6:=AdI (nl:=a.nn) (nm:=b.nn) ha.2.2.2.1 hb.2.2.2.1 ha.2.2.2.2.2 hb.2.2.2.2.2
 by_cases e3:a.labels=b.labels
 case neg=>
  rw[decide_eq_false e3]at h3
  refine Ad rfl rfl ?_
  (conv=>whnf);repeat' (first|((first|refine Aa h3 ?_|refine Aa h4 ?_|refine Aa h5 ?_|refine Aa h6 ?_);rintro _ rfl;conv=>whnf)|(refine kA ?_;conv=>whnf)|(refine Br.mk (fun hc=>?_) fun hc=>?_<;>first|exact hc.elim|conv=>whnf)|(refine kB ?_))
  all_goals first|exact Ar (fun h=>e3 h.2.2.1)|(exfalso;omega)
 rw[decide_eq_true e3]at h3
 by_cases e4:a.types=b.types
 case neg=>
  rw[decide_eq_false e4]at h4
  refine Ad rfl rfl ?_
  (conv=>whnf);repeat' (first|((first|refine Aa h3 ?_|refine Aa h4 ?_|refine Aa h5 ?_|refine Aa h6 ?_);rintro _ rfl;conv=>whnf)|(refine kA ?_;conv=>whnf)|(refine Br.mk (fun hc=>?_) fun hc=>?_<;>first|exact hc.elim|conv=>whnf)|(refine kB ?_))
  all_goals first|exact Ar (fun h=>e4 h.2.2.2.1)|(exfalso;omega)
 rw[decide_eq_true e4]at h4
 by_cases e5:a.outs.map Prod.snd=b.outs.map Prod.snd
 case neg=>
  rw[decide_eq_false e5]at h5
  refine Ad rfl rfl ?_
  (conv=>whnf);repeat' (first|((first|refine Aa h3 ?_|refine Aa h4 ?_|refine Aa h5 ?_|refine Aa h6 ?_);rintro _ rfl;conv=>whnf)|(refine kA ?_;conv=>whnf)|(refine Br.mk (fun hc=>?_) fun hc=>?_<;>first|exact hc.elim|conv=>whnf)|(refine kB ?_))
  all_goals first|exact Ar (fun h=>e5 h.2.2.2.2.1)|(exfalso;omega)
 rw[decide_eq_true e5]at h5
 by_cases e6:a.ins.map Prod.snd=b.ins.map Prod.snd
 case neg=>
  rw[decide_eq_false e6]at h6
  refine Ad rfl rfl ?_
  (conv=>whnf);repeat' (first|((first|refine Aa h3 ?_|refine Aa h4 ?_|refine Aa h5 ?_|refine Aa h6 ?_);rintro _ rfl;conv=>whnf)|(refine kA ?_;conv=>whnf)|(refine Br.mk (fun hc=>?_) fun hc=>?_<;>first|exact hc.elim|conv=>whnf)|(refine kB ?_))
  all_goals first|exact Ar (fun h=>e6 h.2.2.2.2.2)|(exfalso;omega)
 rw[decide_eq_true e6]at h6
 refine Ad rfl rfl ?_
 (conv=>whnf);repeat' (first|((first|refine Aa h3 ?_|refine Aa h4 ?_|refine Aa h5 ?_|refine Aa h6 ?_);rintro _ rfl;conv=>whnf)|(refine kA ?_;conv=>whnf)|(refine Br.mk (fun hc=>?_) fun hc=>?_<;>first|exact hc.elim|conv=>whnf)|(refine kB ?_))
 all_goals first|exact Bh ⟨by assumption,by assumption,e3,e4,e5,e6⟩|exact Ar (fun h=>absurd h.1 (by assumption))|exact Ar (fun h=>absurd h.2.1 (by assumption))|(exfalso;omega)
theorem AqA {a b:ST} (ha:a.fine) (hb:b.fine):Ag (Ac tab) 27 [a.av,b.av] (· =.bool (decide (a.eqv b))):=by
 have h3:=AaL (nl:=a.ln) (nm:=b.ln) ha.1 hb.1
 have h4:=AaL (nl:=a.tn) (nm:=b.tn) ha.2.1 hb.2.1
 have h5:=AdJ (nl:=a.on) (nm:=b.on) ha.2.2.1 hb.2.2.1 ha.2.2.2.2.1 hb.2.2.2.2.1
 have h6:=AdJ (nl:=a.nn) (nm:=b.nn) ha.2.2.2.1 hb.2.2.2.1 ha.2.2.2.2.2 hb.2.2.2.2.2
 by_cases e3:a.labels=b.labels
 case neg=>
  rw[decide_eq_false e3]at h3
  refine Ad rfl rfl ?_
  (conv=>whnf);repeat' (first|((first|refine Aa h3 ?_|refine Aa h4 ?_|refine Aa h5 ?_|refine Aa h6 ?_);rintro _ rfl;conv=>whnf)|(refine kA ?_;conv=>whnf)|(refine Br.mk (fun hc=>?_) fun hc=>?_<;>first|exact hc.elim|conv=>whnf)|(refine kB ?_))
  all_goals first|exact Ar (fun h=>e3 h.2.2.1)|(exfalso;omega)
 rw[decide_eq_true e3]at h3
 by_cases e4:a.types=b.types
 case neg=>
  rw[decide_eq_false e4]at h4
  refine Ad rfl rfl ?_
  (conv=>whnf);repeat' (first|((first|refine Aa h3 ?_|refine Aa h4 ?_|refine Aa h5 ?_|refine Aa h6 ?_);rintro _ rfl;conv=>whnf)|(refine kA ?_;conv=>whnf)|(refine Br.mk (fun hc=>?_) fun hc=>?_<;>first|exact hc.elim|conv=>whnf)|(refine kB ?_))
  all_goals first|exact Ar (fun h=>e4 h.2.2.2.1)|(exfalso;omega)
 rw[decide_eq_true e4]at h4
 by_cases e5:a.outs.map Prod.snd=b.outs.map Prod.snd
 case neg=>
  rw[decide_eq_false e5]at h5
  refine Ad rfl rfl ?_
  (conv=>whnf);repeat' (first|((first|refine Aa h3 ?_|refine Aa h4 ?_|refine Aa h5 ?_|refine Aa h6 ?_);rintro _ rfl;conv=>whnf)|(refine kA ?_;conv=>whnf)|(refine Br.mk (fun hc=>?_) fun hc=>?_<;>first|exact hc.elim|conv=>whnf)|(refine kB ?_))
  all_goals first|exact Ar (fun h=>e5 h.2.2.2.2.1)|(exfalso;omega)
 rw[decide_eq_true e5]at h5
 by_cases e6:a.ins.map Prod.snd=b.ins.map Prod.snd
 case neg=>
  rw[decide_eq_false e6]at h6
  refine Ad rfl rfl ?_
  (conv=>whnf);repeat' (first|((first|refine Aa h3 ?_|refine Aa h4 ?_|refine Aa h5 ?_|refine Aa h6 ?_);rintro _ rfl;conv=>whnf)|(refine kA ?_;conv=>whnf)|(refine Br.mk (fun hc=>?_) fun hc=>?_<;>first|exact hc.elim|conv=>whnf)|(refine kB ?_))
  all_goals first|exact Ar (fun h=>e6 h.2.2.2.2.2)|(exfalso;omega)
 rw[decide_eq_true e6]at h6
 refine Ad rfl rfl ?_
 (conv=>whnf);repeat' (first|((first|refine Aa h3 ?_|refine Aa h4 ?_|refine Aa h5 ?_|refine Aa h6 ?_);rintro _ rfl;conv=>whnf)|(refine kA ?_;conv=>whnf)|(refine Br.mk (fun hc=>?_) fun hc=>?_<;>first|exact hc.elim|conv=>whnf)|(refine kB ?_))
 all_goals first|exact Bh ⟨by assumption,by assumption,e3,e4,e5,e6⟩|exact Ar (fun h=>absurd h.1 (by assumption))|exact Ar (fun h=>absurd h.2.1 (by assumption))|(exfalso;omega)
end AI
end Go.Proofs.YthnehejdkajjhaaGreatDoor
