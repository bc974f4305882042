/- A check does not look at flags: plain. An edge added; graphs alike but for flags. Plain. What a change does to ids and edges. Lists of pairs compared: slices.Equal, the reference's Same. ends. Update of the program. Update of the program: a change without ends. Update: the list where there are ends. Plain. Paths as values: their order, the program's and the reference's; sorting them in place: the order. A lookup among numbers that rise. Update of the program: a change with ends. Update of the program, whole. Update of the reference. The worked example. Changes as data; the ids that changes name: plain. The worked example; what the centrality laws ask. The law CentralitySums, about the evaluator. -/
import Derived.Test.YtchcadfjbkkgmaaGreatDoorEMao
import Derived.Test.YtchcadfjbkkgmaaGreatDoorEMaf
import Derived.Test.YtchcadfjbkkgmaaGreatDoorEMan
import Derived.Test.YtchcadfjbkkgmaaGreatDoorEMah
import Derived.Test.YtchcadfjbkkgmaaGreatDoorEMag
import Derived.Test.YtchcadfjbkkgmaaGreatDoorEMai
import Derived.Test.YtchcadfjbkkgmaaGreatDoorEMae
import Derived.Test.YtchcadfjbkkgmaaGreatDoorEMam
set_option linter.unusedVariables false
set_option maxRecDepth 4000
namespace Go.Proofs.YtchcadfjbkkgmaaGreatDoor
namespace AI
noncomputable def AhV (g:GG) (c:GC):GE:=if c.op=7 then(g.edges.find? (fun n=>decide (n.id=c.id))).getD ⟨0,0,0,[],false,[]⟩else⟨0,c.fr,c.to,c.name,false,[]⟩
def AjO (types:List (List UInt8)) (g:GG) (c:GC):Prop:=(c.op=6∨c.op=7)∧(AhV g c).fr≠(AhV g c).to∧HT types (AhV g c)
noncomputable instance (types:List (List UInt8)) (g:GG) (c:GC):Decidable (AjO types g c):=Classical.propDecidable _
noncomputable def trG (types:List (List UInt8)) (g:GG):List (Int×Int):=if Bo g=0 then Yx types g else[]
theorem Alg {g:GG} (hg:g.ok) (hN:g.nodes.length≤1000) (hE:g.edges.length≤1000) {types:List (List UInt8)} (ht:types.length<2^63) {tn:Bool}:∃b,(b=false→trG types g=[])∧Ah (Ac Sj) 21 [g.av,.sl tn (vs .str types)] (· =.sl b (vs pv (trG types g))):=by
 have h:=YQ (q:=⟨g,tn,types⟩) ⟨hg,hN,hE,ht⟩
 unfold TQ.out at h
 unfold trG
 by_cases hck:Bo g=0
 ·rw[if_pos hck]at h ⊢
  refine⟨_,fun e=>?_,h⟩
  have e:=of_decide_eq_false e
  dsimp only at e
  unfold Yx
  rw[List.eq_nil_of_length_eq_zero (show g.nodes.length=0 by omega)]
  rfl
 ·rw[if_neg hck]at h ⊢
  exact⟨_,fun _=>rfl,h⟩
section
open Go.Sort
def gvK (k:Int) (n:Int):GV:=⟨k,n,0,[],false,[]⟩
def wav (k:Int):List Int→List AV
 |[]=>[]
 |n::l=>(gvK k n).av::wav (11-k) l
def gvP (l:List Int):GV:=⟨7,0,0,[],true,wav 5 l⟩
structure Wk where
 l:List Int
 h:l.length≤1000∧∀n∈l,I64 n
def Wk.av (x:Wk):AV:=(gvP x.l).av
instance:DecidableEq Wk:=fun x y=>if h:x.l=y.l then isTrue (by obtain⟨l,hl⟩:=x;obtain⟨m,hm⟩:=y;obtain rfl:l=m:=h;rfl)else isFalse fun e=>h (by rw[e])
instance:Inhabited Wk:=⟨⟨[],by simp,by simp⟩⟩
noncomputable def AdC (x:Wk):Int:=if VV 8 (gvP x.l)then((x.l.length / 2:Nat):Int)else -1
noncomputable def AjF (x y:Wk):Int:=Tq (MR (AdC x) (AdC y)) (AhM 2 (gvP x.l) (gvP y.l))
noncomputable def AlJ (x y:Wk):Bool:=decide (AjF x y<0)
attribute [irreducible] AlJ AjF AdC
end
def Lh:GG:=⟨true,[⟨1,false,[],false,[]⟩,⟨2,false,[],false,[]⟩,⟨3,false,[],false,[]⟩],true,[⟨1,1,2,[84],false,[]⟩,⟨2,2,3,[84],false,[]⟩],4,3⟩
theorem Ajc:Ah (Ac tab) 26 [] (· =Lh.av):=⟨_,⟨60,by kernel_rfl⟩,rfl⟩
theorem Aag:Lh.ok:=by
 unfold GG.ok Lh Ln I64
 dsimp only
 refine⟨by simp,by simp,?_,by simp,by simp,?_,by omega,by omega⟩
 ·intro n hn
  simp only[List.mem_cons,List.not_mem_nil,or_false]at hn
  rcases hn with rfl|rfl|rfl<;>(unfold GN.ok Ln I64;dsimp only;refine⟨by omega,by simp,by simp,by simp,by simp,by simp,by simp⟩)
 ·intro n hn
  simp only[List.mem_cons,List.not_mem_nil,or_false]at hn
  rcases hn with rfl|rfl<;>(unfold GE.ok Ln I64;dsimp only;refine⟨by omega,by omega,by omega,by simp,by simp,by simp,by simp⟩)
set_option maxRecDepth 100000 in
theorem Ajb:Cj (run (Ac tab) 200) 27 [Lh.av]=some (.int .i64 0):=by kernel_rfl
theorem Abd {AP:Nat→Option Ht} {f:Nat} {args:List AV} {v w:AV} {n:Nat} (h:Ah AP f args (· =v)) (k:Cj (run AP n) f args=some w):v=w:=by
 obtain⟨u,⟨m,h1⟩,rfl⟩:=h
 have e1:=Jr (Le (AP:=AP) (Nat.le_add_right m n)) h1
 have e2:=Jr (Le (AP:=AP) (Nat.le_add_left n m)) k
 rw[e1]at e2
 exact Option.some.inj e2
theorem Aja:Bo Lh=0:=by
 have h:=Abd (YM Aag) Ajb
 simpa using h
set_option maxRecDepth 100000 in
theorem aC:Ah (Ac tab) 9 [Lh.av,.sl false [],.int .i64 1] (· =.CP [.agg [.int .i64 2,.int .i64 3],.bool true]):=⟨_,⟨200,by kernel_rfl⟩,rfl⟩
def Ae2:AV:=.sl true [.agg [.int .i64 1,.int .i64 0,.int .i64 1],.agg [.int .i64 2,.int .i64 1,.int .i64 1],.agg [.int .i64 3,.int .i64 0,.int .i64 1]]
set_option maxRecDepth 100000 in
theorem aB:Ah (Ac tab) 11 [Lh.av,.sl false []] (· =.CP [Ae2,.int .i64 0]):=⟨_,⟨200,by kernel_rfl⟩,rfl⟩
theorem aS:Ah (Ac tab) 13 [Ae2,Ae2] (· =.bool true):=⟨_,⟨200,by kernel_rfl⟩,rfl⟩
set_option maxHeartbeats 2000000 in
theorem NH:Ah (Ac Sj) 8 [] (· =.bool true):=by
 have a0:=Ajc.up upC
 have a1:=aC.up upC
 have a2:=aB.up upC
 have a3:=aS.up upC
 obtain⟨b4,_,a4⟩:=Alg (tn:=false) Aag (by decide) (by decide) (types:=[]) (by decide)
 have hl:(trG [] Lh).length=3:=by
  unfold trG
  rw[if_pos Aja]
  unfold Yx
  rw[List.length_map];rfl
 have a4:Ah (Ac Sj) 21 [Lh.av,.sl false []] (· =.sl b4 (vs pv (trG [] Lh))):=a4
 generalize trG [] Lh=W at a4 hl
 unfold Ae2 at a2 a3
 refine Ae rfl rfl ?_
 (conv=>whnf);repeat' (first|((first|refine Aa a0 ?_|refine Aa a1 ?_|refine Aa a2 ?_|refine Aa a3 ?_|refine Aa a4 ?_);rintro _ rfl;conv=>whnf)|(refine kA ?_;conv=>whnf)|(refine Br.mk (fun hc=>?_) fun hc=>?_<;>first|exact hc.elim|conv=>whnf)|(refine kB ?_))
 all_goals first
  |rfl
  |(exfalso;omega)
theorem Aha {g:GG} (hg:g.ok) {types:List (List UInt8)} {tn:Bool} (ht:types.length<2^63):Ah (Ac tab) 7 [g.av,.sl tn (vs .str types)] (fun v=>∃b,v=.bool b∧(b=true→SmG g 12 24∧types.length≤8)):=by
 obtain⟨_,⟨b,rfl,hb⟩,p⟩:=(small hg (n:=12) (e:=24)).YO
 cases b with
 |false=>
  refine Ae rfl rfl ?_
  (conv=>whnf);repeat' (first|(refine Aa p ?_;rintro _ rfl;conv=>whnf)|(refine kA ?_;conv=>whnf)|(refine Br.mk (fun hc=>?_) fun hc=>?_<;>first|exact hc.elim|conv=>whnf)|(refine kB ?_))
  all_goals first
   |exact⟨false,rfl,fun h=>by cases h⟩
 |true=>
  have hs:=hb rfl
  refine Ae rfl rfl ?_
  (conv=>whnf);repeat' (first|(refine Aa p ?_;rintro _ rfl;conv=>whnf)|(refine kA ?_;conv=>whnf)|(refine Br.mk (fun hc=>?_) fun hc=>?_<;>first|exact hc.elim|conv=>whnf)|(refine kB ?_))
  all_goals first
   |exact⟨_,rfl,fun h=>⟨hs,by have:=of_decide_eq_true h;omega⟩⟩
   |exact⟨true,rfl,fun h=>⟨hs,by omega⟩⟩
   |exact⟨false,rfl,fun h=>by cases h⟩
theorem YU {a:AV} (h:Like Tryz.prog 26 a):∃nn l,a=.sl nn (vs .str l)∧l.length<2^63:=by
 obtain⟨d,h⟩:=h
 obtain⟨nn,l,e,_,h2,_⟩:=AcS (f:=AV.str) (Q:=Ln) Tryz.underlying26 (fun d x h=>by
  obtain⟨k,e1,h1⟩:=Ql Tryz.underlying9 h
  exact⟨k,e1,UO h1⟩) h
 exact⟨nn,l,e,UO h2⟩
theorem Ac0 {A:Nat→Nat→Bool} {n:Nat} (hn:n≤12) {l:List (Nat×Nat)} (hb:WU (JC A n) (Gu A n) n n=some l):∃(N:Nat) (V:Nat→Nat),0<N∧(∀ v,∀h:v<l.length,Q9 l[v]∧(l[v]).1*N=(l[v]).2*V v)∧sg n V=N*sg n (fun s=>sg n (PE A n s)):=by
 obtain⟨N,h0,hd⟩:=J3 4096
 have hG:=NJ (A:=A) h0 hd hn
 refine⟨N,fun v=>sg n fun s=>sg n fun t=>wtB N (JC A n) (Gu A n) v s t,h0,fun v hv=>?_,Ac1 hG⟩
 have hl:=OE hb
 obtain⟨a,h1,h2⟩:=Ac2 hb v (by omega)
 rw[List.getElem?_eq_getElem hv]at h2
 cases h2
 exact VW hG (by omega) (Nat.le_refl _) h1
theorem Ahb {A:Nat→Nat→Bool} {n i t:Nat} (hi:i<n) (ht:t<n):PE A n i t≤n:=by
 have:=YZ (A:=A) hi ht
 unfold PE;omega
theorem Ac3 {A:Nat→Nat→Bool} {n i:Nat} (hi:i<n):sg n (PE A n i)≤n*n:=by
 have:=Jf (n:=n) (f:=PE A n i) (g:=fun _=>n) fun t ht=>Ahb hi ht
 rwa [G5]at this
theorem Ac4 {A:Nat→Nat→Bool} {n k:Nat} (hk:k≤n):sg k (fun s=>sg n (PE A n s))≤k*(n*n):=by
 have:=Jf (n:=k) (f:=fun s=>sg n (PE A n s)) (g:=fun _=>n*n) fun t ht=>Ac3 (by omega)
 rwa [G5]at this
theorem Afb {N E:Nat} {z:Nat×Nat} (h0:0<N) (hz:Q9 z) (h:z.1*N=z.2*(N*E)) (hE:E≤1728):z=(E,1):=by
 have h1:z.1=z.2*E:=by
  refine Nat.eq_of_mul_eq_mul_right h0 ?_
  rw[h,Nat.mul_comm N E,Nat.mul_assoc]
 refine Ajg hz ⟨Nat.le_refl 1,(by decide:1≤Hg),?_,Nat.gcd_one_right E⟩ ?_
 ·show E≤Hg
  unfold Hg;omega
 ·show z.1*1=E*z.2
  rw[Nat.mul_one,h1,Nat.mul_comm]
theorem Ahc (p:Nat×Nat):bin .eql (.flat [.int,.int]) (fv p) (fv p)=some (.bool true):=by
 simp[bin,Abh,DL,Df,fv]
set_option maxRecDepth 10000 in
set_option maxHeartbeats 4000000 in
theorem AcT:∀xs,likes Tryz.prog [25,26] xs→D7 (Ac Sj) 4 xs ⟨[],0⟩ fun out _=>out=.ok (.bool true):=by
 intro xs h
 match xs,h with
 |[x,y],h=>
  obtain⟨h1,h2,_⟩:=h
  obtain⟨g,rfl,hg⟩:=Y0 h1
  obtain⟨tn,types,rfl,ht⟩:=YU h2
  obtain⟨_,⟨bs,rfl,hs⟩,p0⟩:=((Aha hg (types:=types) (tn:=tn) ht).up upC).YO
  have pk:=(Ahd hg).up upC
  refine PO rfl rfl ?_
  cases bs with
  |false=>
   (conv=>whnf);repeat' (first|((first|refine Aa NH ?_|refine Aa p0 ?_);rintro _ rfl;conv=>whnf)|(refine kA ?_;conv=>whnf)|(refine Br.mk (fun hc=>?_) fun hc=>?_<;>first|exact hc.elim|conv=>whnf)|(refine kB ?_))
   all_goals first|rfl
  |true=>
   obtain⟨hsm,ht8⟩:=hs rfl
   have hN:g.nodes.length≤12:=by have:=hsm.1;omega
   have hE:g.edges.length≤1000:=by have:=hsm.2.1;omega
   by_cases hck:Bo g=0
   case neg=>
     generalize Bo g=e0 at pk hck
     (conv=>whnf);repeat' (first|((first|refine Aa NH ?_|refine Aa p0 ?_|refine Aa pk ?_);rintro _ rfl;conv=>whnf)|(refine kA ?_;conv=>whnf)|(refine Br.mk (fun hc=>?_) fun hc=>?_<;>first|exact hc.elim|conv=>whnf)|(refine kB ?_))
     all_goals first|rfl|(exfalso;omega)
   have pb:=(Ac5 (tn:=tn) hg hN hE ht).up upC
   have pe:∀{i:Nat} (hi:i<g.nodes.length),_:=fun{i} hi=>(Ahe (tn:=tn) (types:=types) hg hN hE hck ht hi).up upC
   have hnn:∀{k:Nat},k≤g.nodes.length→sg k (fun s=>sg g.nodes.length (PE (Cc types g) g.nodes.length s))≤1728:=fun{k} hk=>by
     have h1:=Ac4 (A:=Cc types g) hk
     have h2:k*(g.nodes.length*g.nodes.length)≤12*(12*12):=Nat.mul_le_mul (by omega) (Nat.mul_le_mul hN hN)
     omega
   unfold btG at pb
   rw[hck]at pk
   rw[if_pos hck]at pb
   cases hb:WU (JC (Cc types g) g.nodes.length) (Gu (Cc types g) g.nodes.length) g.nodes.length g.nodes.length with
   |none=>
    rw[hb]at pb
    unfold btW at pb
    (conv=>whnf);repeat' (first|((first|refine Aa NH ?_|refine Aa p0 ?_|refine Aa pk ?_|refine Aa pb ?_);rintro _ rfl;conv=>whnf)|(refine kA ?_;conv=>whnf)|(refine Br.mk (fun hc=>?_) fun hc=>?_<;>first|exact hc.elim|conv=>whnf)|(refine kB ?_))
    all_goals first|rfl|(exfalso;omega)
   |some l=>
    rw[hb]at pb
    unfold btW at pb
    obtain⟨N,V,hN0,hV,htot⟩:=Ac0 hN hb
    have hll:=OE hb
    have hEx:∀{k:Nat},k<g.nodes.length→(sg (k+1) fun s=>sg g.nodes.length (PE (Cc types g) g.nodes.length s))=(sg k fun s=>sg g.nodes.length (PE (Cc types g) g.nodes.length s))+sg g.nodes.length (PE (Cc types g) g.nodes.length k):=fun{k} hk=>rfl
    have hzl:((BK g).zip l).length=g.nodes.length:=by rw[List.length_zip,DF,hll];omega
    have hza:∀{k:Nat} (h:k<((BK g).zip l).length) (h2:k<l.length),∃x,((BK g).zip l)[k]=(x,l[k]):=fun{k} h h2=>⟨_,List.getElem_zip⟩
    clear hb hs hsm
    dsimp only at pb
    generalize (BK g).zip l=L at pb hzl hza
    generalize PE (Cc types g) g.nodes.length=X at pe hnn hEx htot
    (conv=>whnf);repeat' (first|((first|refine Aa NH ?_|refine Aa p0 ?_|refine Aa pk ?_|refine Aa pb ?_);rintro _ rfl;conv=>whnf)|(refine kA ?_;conv=>whnf)|(refine Br.mk (fun hc=>?_) fun hc=>?_<;>first|exact hc.elim|conv=>whnf)|(refine kB ?_))
    all_goals first|(exfalso;omega)|skip
    refine Aj (fun m env s=>∃(i c:Nat) (z:Nat×Nat),m=L.length-i∧i≤L.length∧Q9 z∧z.1*N=z.2*sg i V∧env=[(1,.sl tn (vs .str types)),(2,.ref 0 0 0 0),(7,.ref 1 1 0 0),(35,.sl (decide (0<g.nodes.length)) (vs Xv L)),(36,.int .i64 L.length),(37,.int .i64 i)]∧s=⟨[.arr 0 4 true true [g.av],.arr 1 2 true true [fv z]],c⟩) ?_ _ _ _ ⟨0,_,(0,1),rfl,by omega,⟨by decide,by decide,by decide,by decide⟩,by simp[sg],rfl,rfl⟩
    clear p0 pk pb hg
    rintro _ _ _ ⟨i,c,z,rfl,hi,hz,hzv,rfl,rfl⟩
    refine⟨rfl,?_⟩
    by_cases hlt:i<L.length
    ·have hil:i<l.length:=by omega
     obtain⟨x,hx⟩:=hza hlt hil
     obtain⟨hv1,hv2⟩:=hV i hil
     have pA:=(Aji hz hv1).up upC
     cases hA:addN z l[i]with
     |none=>
      rw[hA]at pA
      unfold UQ fv at pA
      have nx:nth (vs Xv L) (Int.toNat (Nat.cast i))=some (Xv (x,l[i])):=by rw[← hx];exact nVN hlt
      unfold Xv at nx
      (conv=>whnf);repeat' (first|(refine Au nx ?_;conv=>whnf)|((first|refine Aa NH ?_|refine Aa pA ?_);rintro _ rfl;conv=>whnf)|(refine kA ?_;conv=>whnf)|(refine Br.mk (fun hc=>?_) fun hc=>?_<;>first|exact hc.elim|conv=>whnf)|(refine kB ?_))
      all_goals first|rfl|(exfalso;omega)
     |some y=>
      rw[hA]at pA
      obtain⟨k1,k2⟩:=val_add hz hv1 hA hzv hv2
      unfold UQ fv at pA
      have nx:nth (vs Xv L) (Int.toNat (Nat.cast i))=some (Xv (x,l[i])):=by rw[← hx];exact nVN hlt
      unfold Xv at nx
      (conv=>whnf);repeat' (first|(refine Au nx ?_;conv=>whnf)|((first|refine Aa NH ?_|refine Aa pA ?_);rintro _ rfl;conv=>whnf)|(refine kA ?_;conv=>whnf)|(refine Br.mk (fun hc=>?_) fun hc=>?_<;>first|exact hc.elim|conv=>whnf)|(refine kB ?_))
      all_goals first
         |(exfalso;omega)
         |exact again.mk ⟨_,by omega,i+1,_,y,rfl,by omega,k1,k2,rfl,rfl⟩
    ·obtain rfl:i=L.length:=by omega
     rw[hzl,htot]at hzv
     obtain rfl:=Afb hN0 hz hzv (hnn (Nat.le_refl _))
     have hfe:=Ahc (sg g.nodes.length (fun s=>sg g.nodes.length (X s)),1)
     unfold fv at hfe
     (conv=>whnf);repeat' (first  |(refine kA ?_;conv=>whnf)|(refine Br.mk (fun hc=>?_) fun hc=>?_<;>first|exact hc.elim|conv=>whnf)|(refine kB ?_))
     all_goals first|(exfalso;omega)|skip
     refine Aj (fun m env s=>∃(i c:Nat),m=g.nodes.length-i∧i≤g.nodes.length∧env=[(1,.sl tn (vs .str types)),(2,.ref 0 0 0 0),(7,.ref 1 1 0 0),(12,.int .i64 ((sg i fun s=>sg g.nodes.length (X s):Nat):Int)),(54,.sl g.nn (vs GN.av g.nodes)),(55,.int .i64 g.nodes.length),(56,.int .i64 i)]∧s=⟨[.arr 0 4 true true [g.av],.arr 1 2 true true [fv (sg g.nodes.length (fun s=>sg g.nodes.length (X s)),1)]],c⟩) ?_ _ _ _ ⟨0,_,rfl,by omega,rfl,rfl⟩
     rintro _ _ _ ⟨i,c,rfl,hi,rfl,rfl⟩
     refine⟨rfl,?_⟩
     have hb1:=hnn hi
     by_cases hlt:i<g.nodes.length
     ·have pX:=pe hlt
      rw[KW hlt]at pX
      have hE2:=hEx hlt
      have hb2:=hnn (show i+1≤g.nodes.length by omega)
      rw[hE2]at hb2
      (conv=>whnf);repeat' (first|(refine Aa pX ?_;rintro _ rfl;conv=>whnf)|(refine kA ?_;conv=>whnf)|(refine Br.mk (fun hc=>?_) fun hc=>?_<;>first|exact hc.elim|conv=>whnf)|(refine kB ?_))
      all_goals first
         |(exfalso;omega)
         |exact again.mk ⟨_,by omega,i+1,_,rfl,by omega,by rw[hE2,Int.natCast_add];rfl,rfl⟩
     ·obtain rfl:i=g.nodes.length:=by omega
      (conv=>whnf);repeat' (first|(refine Aa NH ?_;rintro _ rfl;conv=>whnf)|(refine Dl hfe ?_;conv=>whnf)|(refine kA ?_;conv=>whnf)|(refine Br.mk (fun hc=>?_) fun hc=>?_<;>first|exact hc.elim|conv=>whnf)|(refine kB ?_))
      all_goals first|rfl|(exfalso;omega)
end AI
end Go.Proofs.YtchcadfjbkkgmaaGreatDoor
