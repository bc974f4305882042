/- The program's Distances as an entry of a greater table. The greater table; the worked example; the law ShortestLevels, about the evaluator. Names in a list, increasing strings, labels and properties. What is wrong with labels and properties. Looking for a node among increasing ids. graph.Check: the first error of a graph. -/
import Derived.Test.YthjeehjphekjmaaGreatDoorRMam
import Derived.Test.YthjeehjphekjmaaGreatDoorRMaj
import Derived.Test.YthjeehjphekjmaaGreatDoorRMah
import Derived.Test.YthjeehjphekjmaaGreatDoorRMab
set_option linter.unusedVariables false
set_option maxRecDepth 4000
namespace Go.Proofs.YthjeehjphekjmaaGreatDoor
namespace AI
section
open Go.RowKit Go.Sort
theorem GP.G7 {p q:GP} (h:p.av=q.av):p=q:=by
 obtain⟨k,a,b,c,d,e,f⟩:=p
 obtain⟨k',a',b',c',d',e',f'⟩:=q
 simp only[GP.av,AV.agg.injEq,List.cons.injEq,AV.str.injEq,AV.int.injEq,AV.sl.injEq,and_true,true_and]at h
 obtain⟨rfl,rfl,rfl,rfl,rfl,rfl,rfl⟩:=h
 rfl
theorem GN.G7 {p q:GN} (h:p.av=q.av):p=q:=by
 obtain⟨a,b,c,d,e⟩:=p
 obtain⟨a',b',c',d',e'⟩:=q
 simp only[GN.av,AV.agg.injEq,List.cons.injEq,AV.int.injEq,AV.sl.injEq,and_true,true_and]at h
 obtain⟨rfl,⟨rfl,h1⟩,rfl,h2⟩:=h
 obtain rfl:=ND (fun a b h=>AV.str.inj h) h1
 obtain rfl:=ND (fun a b h=>GP.G7 h) h2
 rfl
theorem GE.G7 {p q:GE} (h:p.av=q.av):p=q:=by
 obtain⟨a,b,c,d,e,f⟩:=p
 obtain⟨a',b',c',d',e',f'⟩:=q
 simp only[GE.av,AV.agg.injEq,List.cons.injEq,AV.int.injEq,AV.str.injEq,AV.sl.injEq,and_true,true_and]at h
 obtain⟨rfl,rfl,rfl,rfl,rfl,h2⟩:=h
 obtain rfl:=ND (fun a b h=>GP.G7 h) h2
 rfl
theorem GG.G7 {p q:GG} (h:p.av=q.av):p=q:=by
 obtain⟨a,b,c,d,e,f⟩:=p
 obtain⟨a',b',c',d',e',f'⟩:=q
 simp only[GG.av,AV.agg.injEq,List.cons.injEq,AV.int.injEq,AV.sl.injEq,and_true,true_and]at h
 obtain⟨⟨rfl,h1⟩,⟨rfl,h2⟩,rfl,rfl⟩:=h
 obtain rfl:=ND (fun a b h=>GN.G7 h) h1
 obtain rfl:=ND (fun a b h=>GE.G7 h) h2
 rfl
structure DQ where
 g:GG
 a:Int
 tn:Bool
 types:List (List UInt8)
 dir:Int
def DQ.ok (q:DQ):Prop:=q.g.ok∧U8 q.g∧q.g.nodes.length<2^62∧q.g.edges.length≤100∧q.types.length<2^63
def DQ.enc (q:DQ):List AV:=[q.g.av,.int .i64 q.a,.sl q.tn (vs .str q.types),.int .i64 q.dir]
def DQ.nb (q:DQ):Int→List Int:=CY q.types q.dir q.g.edges
theorem DQ.Abq {p q:DQ} (h:p.enc=q.enc):p=q:=by
 obtain⟨a,b,c,d,e⟩:=p
 obtain⟨a',b',c',d',e'⟩:=q
 simp only[DQ.enc,List.cons.injEq,AV.int.injEq,AV.sl.injEq,and_true,true_and]at h
 obtain⟨h1,rfl,⟨rfl,h2⟩,rfl⟩:=h
 obtain rfl:=GG.G7 h1
 obtain rfl:=ND (fun a b h=>AV.str.inj h) h2
 rfl
noncomputable def dsO (nb:Int→List Int) (a:Int):List (Int×Int):=by
 classical exact if h:∃O,DsO nb a O then Classical.choose h else[]
theorem SQ {nb:Int→List Int} {a:Int} {O:List (Int×Int)} (h:DsO nb a O):dsO nb a=O:=by
 have hx:∃O,DsO nb a O:=⟨O,h⟩
 unfold dsO
 rw[dif_pos hx]
 exact(Classical.choose_spec hx).unique h
noncomputable def DQ.out (q:DQ):AV:=if EH q.g q.a then .sl true (vs Az (dsO q.nb q.a))else .sl false []
noncomputable def IE (args:List AV) (s:Ag):Option (AX×Ag):=by
 classical exact if h:∃q:DQ,q.ok∧args=q.enc∧s=⟨[],0⟩then some (.ok (Classical.choose h).out,⟨[],0⟩)else none
theorem UW {q:DQ} (hq:q.ok):IE q.enc ⟨[],0⟩=some (.ok q.out,⟨[],0⟩):=by
 have hx:∃p:DQ,p.ok∧q.enc=p.enc∧(⟨[],0⟩:Ag)=⟨[],0⟩:=⟨q,hq,rfl,rfl⟩
 unfold IE
 rw[dif_pos hx]
 have:=DQ.Abq (Classical.choose_spec hx).2.1
 rw[← this]
theorem Ob:∀M:List (Int×Int),O8 (Fz M)=true
 |[]=>rfl
 |p::M=>by
  show(true&&O8 (Fz M))=true
  rw[Ob M];rfl
def FM (M:List (Int×Int)) (seen:List Nat):List (Int×Int):=seen.map fun i=>(M[i]?).getD (0,0)
theorem X3 {M:List (Int×Int)} {seen:List Nat} (h:seen.Perm (List.range M.length)):(FM M seen).Perm M:=by
 have h1:(FM M seen).Perm (FM M (List.range M.length)):=h.map _
 have h2:FM M (List.range M.length)=M:=by
  apply List.ext_getElem
  ·simp[FM]
  ·intro i h1 h2
   simp[FM,h2]
 rw[h2]at h1
 exact h1
theorem UY {nb:Int→List Int} {a:Int} {d:Nat} {seen:List (Int×Nat)} (hb:QA nb a d seen []) {W:List (Int×Int)} (hp:W.Perm (seen.map pz)) (hs:W.Pairwise fun x y=>Cj y x=false):DsO nb a W:=by
 have hnd:(W.map (·.1)).Nodup:=by
  have h1:(W.map (·.1)).Perm ((seen.map pz).map (·.1)):=hp.map _
  have h2:(seen.map pz).map (·.1)=seen.map (·.1):=by rw[List.map_map];rfl
  rw[h2]at h1
  exact h1.nodup_iff.2 hb.nd
 refine Qe.ds (seen:=seen) ⟨?_,fun p=>hp.mem_iff⟩ hb
 refine List.pairwise_iff_getElem.2 fun i j hi hj hij=>?_
 have h1:=List.pairwise_iff_getElem.1 hs i j hi hj hij
 have h2:¬(W[j]).1<(W[i]).1:=fun k=>by rw[Abp.2 k]at h1;cases h1
 have h3:(W[i]).1≠(W[j]).1:=fun e=>by
  have:=(List.getElem_inj (i:=i) (j:=j) (h₀:=by simpa using hi) (h₁:=by simpa using hj) hnd).1 (by simpa using e)
  omega
 omega
noncomputable abbrev fD:Func:=Tryz.f13
noncomputable abbrev aD:FK:=x13.1
noncomputable abbrev b0:Code:=AcW fD
noncomputable abbrev b1:Code:=SG b0
noncomputable abbrev b2:Code:=SG b1
noncomputable abbrev b3:Code:=SG b2
noncomputable abbrev b4:Code:=SG b3
noncomputable abbrev b5:Code:=SG b4
noncomputable abbrev b6:Code:=SG b5
noncomputable abbrev b7:Code:=SG b6
noncomputable abbrev b8:Code:=SG b7
noncomputable abbrev b9:Code:=SG b8
noncomputable abbrev e0:Am:=aD.body
noncomputable abbrev e1:Am:=SI e0
noncomputable abbrev e2:Am:=SI e1
noncomputable abbrev e3:Am:=SI e2
noncomputable abbrev e4:Am:=SI e3
noncomputable abbrev e5:Am:=SI e4
noncomputable abbrev e6:Am:=SI e5
noncomputable abbrev e7:Am:=SI e6
noncomputable abbrev e8:Am:=SI e7
noncomputable abbrev e9:Am:=SI e8
def opsOf:Code→Array Oper
 | .region _ o _=>o
 |_=>#[]
def AdB:Code→Nat
 | .region i _ _=>i
 |_=>0
def inC:Code→Code
 | .block _ c=>c
 | .loop c=>c
 |c=>c
noncomputable abbrev rB:Code:=inC (inC (SG (Ld b7)))
noncomputable abbrev rR0:Code:=Ld (Ld b7)
noncomputable abbrev rR1:Code:=Ld rB
noncomputable abbrev rIn:Code:=inC (SG (SG rB))
noncomputable abbrev rR2:Code:=Ld rIn
noncomputable abbrev rX:Code:=SG rIn
theorem UZ:Ld b7=.seq (.region (AdB rR0) (opsOf rR0) false) (.block 4 (.loop (.seq (.region (AdB rR1) (opsOf rR1) false) (.seq (.cond (.tmp 67) .skip (.exit 4)) (.block 5 (.seq (.region (AdB rR2) (opsOf rR2) false) rX)))))):=by kernel_rfl
def Tq (c:Code) (k:Nat):Oper:=((opsOf c).toList[k]?).getD default
theorem Oc {P:Program} {n:Nat} {an:List Fb} {i j:Nat} {x:Code} {a:Am} (h:BN P n an (.block i x)=some (.block j a)):BN P n an x=some a:=by
 simp only[BN]at h
 cases hx:BN P n an x with
 |none=>rw[hx]at h;cases h
 |some b=>rw[hx]at h;simp only[Option.map_some,Option.some.injEq,Am.block.injEq]at h;rw[h.2]
theorem Wh {P:Program} {n:Nat} {an:List Fb} {l:List Nat} {x:Code} {a:Am} (h:BN P n an (.loop x)=some (.loop l a)):BN P n an x=some a:=by
 simp only[BN]at h
 cases hx:BN P n an x with
 |none=>rw[hx]at h;cases h
 |some b=>rw[hx]at h;simp only[Option.map_some,Option.some.injEq,Am.loop.injEq]at h;rw[h.2]
def inA:Am→Am
 | .block _ c=>c
 | .loop _ c=>c
 |c=>c
noncomputable abbrev eB:Am:=inA (inA (SI (SH e7)))
noncomputable abbrev eIn:Am:=inA (SI (SI eB))
noncomputable abbrev eX:Am:=SI eIn
theorem Wi {an:List Fb} (hc:BN Tryz.prog fD.ntmps an (Ld b7)=some (SH e7)):BN Tryz.prog fD.ntmps an rX=some eX:=by
 have d1:=(CS (x:=rR0) (y:=SG (Ld b7)) (a:=SH (SH e7)) (b:=SI (SH e7)) hc).2
 have d2:=Oc (i:=4) (j:=4) (x:=inC (SG (Ld b7))) (a:=inA (SI (SH e7))) d1
 have d3:=Wh (l:=l13_2_h) (x:=rB) (a:=eB) d2
 have d4:=(CS (x:=rR1) (y:=SG rB) (a:=SH eB) (b:=SI eB) d3).2
 have d5:=(CS (x:=Ld (SG rB)) (y:=SG (SG rB)) (a:=SH (SI eB)) (b:=SI (SI eB)) d4).2
 have d6:=Oc (i:=5) (j:=5) (x:=rIn) (a:=eIn) d5
 exact(CS (x:=rR2) (y:=rX) (a:=SH eIn) (b:=eX) d6).2
theorem Wj {M:List (Int×Int)} {seen:List Nat} {i:Nat} (h:i<M.length):FM M (seen++[i])=FM M seen++[M[i]]:=by
 simp[FM,h]
theorem ZX {n:Nat} {l:List Nat} (h1:l.Nodup) (h2:∀j∈l,j<n):l.length≤n:=by
 have:=List.Nodup.length_le_of_subset (l₂:=List.range n) h1 fun j hj=>List.mem_range.2 (h2 j hj)
 rwa [List.length_range]at this
set_option maxHeartbeats 4000000 in
set_option maxRecDepth 10000 in
theorem X4 {Ap Bv:Obj} {gm g3 c:Nat} {M:List (Int×Int)} (hM:M.length≤100000) {an:List Fb} (hc:BN Tryz.prog fD.ntmps an (Ld b7)=some (SH e7)) {Q:Ak→Env→Ag→Prop}
 (hQ:∀gg fo c' seen x,seen.Perm (List.range M.length)→(seen≠[]→fo=true)→Q .normal [(67,.bool false),(66,.junk),(18,.own 3 gg 0 (FM M seen).length),(65,.ref 4 c 0 0)] ⟨[Ap,Bv,.dead,.arr gg 2 fo true (vs Az (FM M seen)),.raw c x],c'⟩):
 AW Tryz.prog fD.ntmps (Ld b7) [(10,.map 2 gm),(18,.own 3 g3 0 0)] ⟨[Ap,Bv,.mp gm true (Fz M),.arr g3 2 false true []],c⟩ Q:=by
 rw[UZ]
 have hfz:EY [10] [(10,.map 2 gm),(18,.own 3 g3 0 0)] ⟨[Ap,Bv,.mp gm true (Fz M),.arr g3 2 false true []],c⟩=some ([(10,.fmap (Fz M)),(10,.map 2 gm),(18,.own 3 g3 0 0)],⟨[Ap,Bv,.dead,.arr g3 2 false true []],c⟩):=by
  have:=Ob M
  simp[EY,Env.get,nth,this]
 refine AW.range (AP:=Ac tab) Ig mixed (anA:=[]) (anB:=[]) (it:=65) (nx:=66) (more:=67) (pair:=68) (VH:=[Tq rR0 0]) (oR:=Tq rR0 1) (oN:=Tq rR1 0) (oX:=Tq rR1 1) (oE:=Tq rR2 0) (XC:=[Tq rR2 1,Tq rR2 2,Tq rR2 3,Tq rR2 4])
  (AaN:=[⟨some 64,.mov (.tmp 10),none⟩]) (AaO:=[⟨some 69,.ext (.tmp 68) 0,none⟩,⟨some 70,.ext (.tmp 68) 1,none⟩,⟨some 19,.mov (.tmp 69),none⟩,⟨some 20,.mov (.tmp 70),none⟩])
  (t:=70) (kt:=3) (et:=3) (xm:=.tmp 64) (am:=.tmp 64)
  (by kernel_rfl) (by kernel_rfl) (by kernel_rfl) (by kernel_rfl) (by kernel_rfl) (by kernel_rfl) (by kernel_rfl) (of_decide_eq_true (by kernel_rfl))
  (by kernel_rfl) (by kernel_rfl) (by kernel_rfl) (by kernel_rfl) (by kernel_rfl) (by kernel_rfl) (by kernel_rfl) (of_decide_eq_true (by kernel_rfl)) (of_decide_eq_true (by kernel_rfl)) (by decide)
  (by kernel_rfl) (by kernel_rfl) (by kernel_rfl) (by kernel_rfl) (of_decide_eq_true (by kernel_rfl)) (by kernel_rfl) (Wi hc) hfz (L:=[18,65]) (ents:=Fz M)
  (J:=fun x seen env s=>∃(gg:Nat) (fo:Bool) (c':Nat),seen.Nodup∧(∀ j∈seen,j<M.length)∧(seen≠[]→fo=true)∧env=[(18,.own 3 gg 0 (FM M seen).length),(65,.ref 4 c 0 0)]∧s=⟨[Ap,Bv,.dead,.arr gg 2 fo true (vs Az (FM M seen)),.raw c x],c'⟩) ?_
 refine⟨0,_,_,_,rfl,rfl,rfl,_,_,rfl,rfl,fun x=>⟨_,_,_,List.nodup_nil,by simp,fun h=>absurd rfl h,rfl,rfl⟩,?_,?_,?_⟩
 ·rintro x seen env s ⟨gg,fo,c',_,_,_,rfl,rfl⟩
  exact⟨rfl,rfl⟩
 ·rintro x x' seen i env s e ⟨gg,fo,c',hnd,hlt,hfo,rfl,rfl⟩ he hins
  obtain⟨hi,rfl⟩:∃h:i<M.length,e=(AV.int .i64 (M[i]).1,AV.int .i64 (M[i]).2):=by
   rw[AZ]at he
   obtain⟨h,rfl⟩:=List.getElem?_eq_some_iff.1 he
   have h2:i<M.length:=by simpa[Fz,L6]using h
   exact⟨h2,by simp[Fz,L6]⟩
  have hsl:=ZX hnd hlt
  have hbl:(FM M seen).length=seen.length:=by simp[FM]
  have hbs:=Wj (seen:=seen) hi
  have AgT:(seen++[i]).Nodup:=List.nodup_append.2 ⟨hnd,by simp,fun x hx y hy=>by simp at hy;subst hy;rintro rfl;exact hins hx⟩
  have hlt2:∀j∈seen++[i],j<M.length:=fun j hj=>by
   rcases List.mem_append.1 hj with hj|hj
   ·exact hlt j hj
   ·simp at hj;omega
  refine⟨0,_,_,_,rfl,rfl,Hl ?_⟩
  conv=>whnf
  (conv=>whnf);repeat' (first|(refine Kz (f:=Az) (l:=FM M seen) (x:=M[i]) Bd rfl (by omega) ?_;conv=>whnf)|(refine kA ?_;conv=>whnf)|(refine Br.mk (fun hc=>?_) fun hc=>?_<;>first|exact hc.elim|conv=>whnf)|(refine kB ?_))
  all_goals first
   |(exfalso;omega)
   |(rw [hbs,List.length_append];exact⟨.inl rfl,_,_,_,AgT,hlt2,fun _=>rfl,rfl,rfl⟩)
 ·rintro x seen env s ⟨gg,fo,c',hnd,hlt,hfo,rfl,rfl⟩ hp
  have hl:(Fz M).length=M.length:=by simp[Fz,L6]
  rw[hl]at hp
  exact hQ gg fo c' seen x hp hfo
set_option maxHeartbeats 4000000 in
set_option maxRecDepth 10000 in
theorem AdC {q:DQ} (hq:q.ok) {an:List Fb} (hc:BN Tryz.prog fD.ntmps an b0=some e0):AW Tryz.prog fD.ntmps b0 (params q.enc 0) ⟨[],0⟩ fun e env s=>(e=.normal∨e=.ret)∧∃vs,FW env s aD.results=some vs∧(E5 vs).closed=true∧E5 vs=q.out:=by
 obtain⟨hg,hf,hl,hE,ht⟩:=hq
 have c0:=CS (x:=Ld b0) (y:=b1) (a:=SH e0) (b:=e1) hc
 have c1:=CS (x:=Ld b1) (y:=b2) (a:=SH e1) (b:=e2) c0.2
 have c2:=CS (x:=Ld b2) (y:=b3) (a:=SH e2) (b:=e3) c1.2
 have c3:=CS (x:=Ld b3) (y:=b4) (a:=SH e3) (b:=e4) c2.2
 have c4:=CS (x:=Ld b4) (y:=b5) (a:=SH e4) (b:=e5) c3.2
 have c5:=CS (x:=Ld b5) (y:=b6) (a:=SH e5) (b:=e6) c4.2
 have c6:=CS (x:=Ld b6) (y:=b7) (a:=SH e6) (b:=e7) c5.2
 have c7:=CS (x:=Ld b7) (y:=b8) (a:=SH e7) (b:=e8) c6.2
 have c8:=CS (x:=Ld b8) (y:=b9) (a:=SH e8) (b:=e9) c7.2
 have p1:=RH hg hf hl (a:=q.a)
 refine AW.go (x:=Ld b0) (y:=b1) Ig mixed c0.1 ?_
 conv=>whnf
 (conv=>whnf);repeat' (first  |(refine kA ?_;conv=>whnf)|(refine Br.mk (fun hc=>?_) fun hc=>?_<;>first|exact hc.elim|conv=>whnf)|(refine kB ?_))
 refine⟨?_⟩
 show AW _ _ b1 _ _ _
 refine AW.go (x:=Ld b1) (y:=b2) Ig mixed c1.1 ?_
 by_cases hn:EH q.g q.a
 case neg=>
  rw[decide_eq_false hn]at p1
  conv=>whnf
  (conv=>whnf);repeat' (first|(refine Aa p1 ?_;rintro _ rfl;conv=>whnf)|(refine kA ?_;conv=>whnf)|(refine Br.mk (fun hc=>?_) fun hc=>?_<;>first|exact hc.elim|conv=>whnf)|(refine kB ?_))
  all_goals first
   |(refine ⟨?_⟩;exact⟨.inr rfl,_,rfl,rfl,by unfold DQ.out;rw[if_neg hn];rfl⟩)
 rw[decide_eq_true hn]at p1
 conv=>whnf
 (conv=>whnf);repeat' (first|(refine Aa p1 ?_;rintro _ rfl;conv=>whnf)|(refine kA ?_;conv=>whnf)|(refine Br.mk (fun hc=>?_) fun hc=>?_<;>first|exact hc.elim|conv=>whnf)|(refine kB ?_))
 refine⟨?_⟩
 show AW _ _ b2 _ _ _
 refine AW.go (x:=Ld b2) (y:=b3) Ig mixed c2.1 ?_
 conv=>whnf
 (conv=>whnf);repeat' (first  |(refine kA ?_;conv=>whnf)|(refine Br.mk (fun hc=>?_) fun hc=>?_<;>first|exact hc.elim|conv=>whnf)|(refine kB ?_))
 refine⟨?_⟩
 show AW _ _ b3 _ _ _
 refine AW.go (x:=Ld b3) (y:=b4) Ig mixed c3.1 ?_
 conv=>whnf
 (conv=>whnf);repeat' (first|(apply msI (M:=[]);conv=>whnf)|(refine kA ?_;conv=>whnf)|(refine Br.mk (fun hc=>?_) fun hc=>?_<;>first|exact hc.elim|conv=>whnf)|(refine kB ?_))
 refine⟨?_⟩
 show AW _ _ b4 _ _ _
 refine AW.go (x:=Ld b4) (y:=b5) Ig mixed c4.1 ?_
 conv=>whnf
 (conv=>whnf);repeat' (first  |(refine kA ?_;conv=>whnf)|(refine Br.mk (fun hc=>?_) fun hc=>?_<;>first|exact hc.elim|conv=>whnf)|(refine kB ?_))
 refine⟨?_⟩
 show AW _ _ b5 _ _ _
 refine AW.go (x:=Ld b5) (y:=b6) Ig mixed c5.1 ?_
 conv=>whnf
 (conv=>whnf);repeat' (first  |(refine kA ?_;conv=>whnf)|(refine Br.mk (fun hc=>?_) fun hc=>?_<;>first|exact hc.elim|conv=>whnf)|(refine kB ?_))
 refine AeL hg hE ht (fun d seen c' tl hB=>?_)
 (conv=>whnf);repeat' (first  |(refine kA ?_;conv=>whnf)|(refine Br.mk (fun hc=>?_) fun hc=>?_<;>first|exact hc.elim|conv=>whnf)|(refine kB ?_))
 refine⟨?_⟩
 show AW _ _ b6 _ _ _
 refine AW.go (x:=Ld b6) (y:=b7) Ig mixed c6.1 ?_
 conv=>whnf
 (conv=>whnf);repeat' (first  |(refine kA ?_;conv=>whnf)|(refine Br.mk (fun hc=>?_) fun hc=>?_<;>first|exact hc.elim|conv=>whnf)|(refine kB ?_))
 refine⟨?_⟩
 have hMl:=hB.few
 have hSl:(seen.map pz).length≤2000:=by rw[List.length_map];omega
 refine AW.seq (x:=Ld b7) (y:=b8) (X4 (M:=seen.map pz) (by omega) c7.1 fun gg fo c2 sn x hp hfo=>?_)
 have hbp:=X3 hp
 have hbl:=hbp.length_eq
 show AW _ _ b8 _ _ _
 refine AW.go (x:=Ld b8) (y:=b9) Ig mixed c8.1 ?_
 conv=>whnf
 (conv=>whnf);repeat' (first  |(refine kA ?_;conv=>whnf)|(refine Br.mk (fun hc=>?_) fun hc=>?_<;>first|exact hc.elim|conv=>whnf)|(refine kB ?_))
 refine(AdD (L:=FM (seen.map pz) sn) rfl (by omega)).mono ?_
 rintro _ _ ⟨c3,W,rfl,rfl,w1,w2⟩
 have hwl:=w1.length_eq
 conv=>whnf
 apply Ai rfl
 (conv=>whnf);repeat' (first  |(refine kA ?_;conv=>whnf)|(refine Br.mk (fun hc=>?_) fun hc=>?_<;>first|exact hc.elim|conv=>whnf)|(refine kB ?_))
 refine⟨?_⟩
 show AW _ _ b9 _ _ _
 refine AW.fin (x:=b9) Ig mixed c8.2 ?_
 conv=>whnf
 (conv=>whnf);repeat' (first  |(refine kA ?_;conv=>whnf)|(refine Br.mk (fun hc=>?_) fun hc=>?_<;>first|exact hc.elim|conv=>whnf)|(refine kB ?_))
 have hds:=SQ (UY hB (w1.trans hbp) w2)
 have hsn:sn≠[]:=fun e=>by
  rw[e]at hp
  have h1:=hp.length_eq
  rw[List.length_range,List.length_map]at h1
  have h2:=hB.all 0 hB.pos q.a ((EU _).2 rfl)
  have h3:=List.length_pos_of_mem h2
  rw[List.length_map]at h3
  simp only[List.length_nil]at h1
  omega
 have ef:=hfo hsn
 refine⟨.inr rfl,_,rfl,rfl,?_⟩
 show AV.sl fo (sub (vs Az W) 0 (FM (seen.map pz) sn).length)=q.out
 rw[ef,←hwl,uV]
 unfold DQ.out
 rw[if_pos hn]
 unfold DQ.nb
 rw[hds]
theorem Abf:Ba Tryz.prog fun f' args s=>if f'=13 then IE args s else none:=by
 intro f0 args s out s' h
 replace h:(if f0=13 then IE args s else none)=some (out,s'):=h
 rcases Decidable.em (f0=13)with hf|hf
 case inr=>rw[if_neg hf]at h;cases h
 rw[if_pos hf]at h
 subst hf
 unfold IE at h
 split at h
 case isFalse=>cases h
 rename_i hx
 have hcs:=Classical.choose_spec hx
 simp only[Option.some.injEq,Prod.mk.injEq]at h
 obtain⟨rfl,rfl⟩:=h
 generalize Classical.choose hx=q at hcs
 obtain⟨hq,rfl,rfl⟩:=hcs
 refine fun w0 B Z φ w vs hI hargs=>.inl ⟨⟨_,Tryz.func13,rfl,by decide⟩,?_⟩
 obtain⟨b,hb,hcm,hrs,_⟩:=VI x13.2
 obtain rfl:b=b0:=by
  have:fD.body=some b0:=by kernel_rfl
  exact Option.some.inj (hb.symm.trans this)
 refine(Ze (R:=fun v=>v=q.out) Tryz.func13 hb hrs (of_decide_eq_true (by kernel_rfl)) (AdC hq hcm) hI hargs).mono ?_
 rintro e w1 ⟨v,rfl,Z',φ',hI',hL,hR⟩
 exact⟨Z',φ',hI',hL,hR⟩
end
section
open Go.RowKit
noncomputable def MH:List (Nat×Gv):=(13,.ext IE)::tab
theorem Adv:Ac tab 13=none:=by kernel_rfl
theorem Le:∀f a,Ac tab f=some a→Ac MH f=some a:=XD Adv
theorem Abe:OB Tryz.prog (Ac MH):=by
 intro f a h
 simp only[MH,Ac]at h
 cases hb:Nat.beq 13 f with
 |false=>rw[hb,cond_false]at h;exact Zr f a h
 |true=>
  rw[hb,cond_true]at h
  have e:=Nat.eq_of_beq_eq_true hb
  subst e
  cases h
  exact Abf
theorem RU (n:Nat):Ba Tryz.prog (run (Ac MH) n):=Kr mixed Abe n
theorem Zh {q:DQ} (hq:q.ok):Au (Ac MH) 13 q.enc (· =q.out):=by
 refine⟨q.out,⟨1,?_⟩,rfl⟩
 have h1:run (Ac MH) 1 13 q.enc ⟨[],0⟩=some (.ok q.out,⟨[],0⟩):=UW hq
 simp only[Dv,h1]
 unfold DQ.out
 split
 ·rfl
 ·rfl
def JZ:GG:=⟨true,[⟨1,false,[],false,[]⟩,⟨2,false,[],false,[]⟩,⟨3,false,[],false,[]⟩],true,
 [⟨1,1,2,[84],false,[]⟩,⟨2,2,1,[84],false,[]⟩,⟨3,2,3,[84],false,[]⟩,⟨4,1,2,[84],false,[]⟩],4,5⟩
theorem Afg:Au (Ac tab) 29 [] (· =JZ.av):=⟨_,⟨60,by kernel_rfl⟩,rfl⟩
theorem Abg:JZ.ok:=by
 unfold GG.ok JZ Ln I64
 dsimp only
 refine⟨by simp,by simp,?_,by simp,by simp,?_,by omega,by omega⟩
 ·intro n hn
  simp only[List.mem_cons,List.not_mem_nil,or_false]at hn
  rcases hn with rfl|rfl|rfl<;>(unfold GN.ok Ln I64;dsimp only;refine⟨by omega,by simp,by simp,by simp,by simp,by simp,by simp⟩)
 ·intro n hn
  simp only[List.mem_cons,List.not_mem_nil,or_false]at hn
  rcases hn with rfl|rfl|rfl|rfl<;>(unfold GE.ok Ln I64;dsimp only;refine⟨by omega,by omega,by omega,by simp,by simp,by simp,by simp⟩)
theorem ZM:U8 JZ:=by
 intro n hn
 simp only[JZ,List.mem_cons,List.not_mem_nil,or_false]at hn
 rcases hn with rfl|rfl|rfl<;>exact⟨by simp,by simp,by simp⟩
def q4:DQ:=⟨JZ,2,false,[],1⟩
theorem Afh:q4.ok:=⟨Abg,ZM,by decide,by decide,by decide⟩
theorem Afi:dsO q4.nb q4.a=[(1,1),(2,0),(3,1)]:=by
 have b1:=(QA.start q4.nb 2).step
 have e1:fresh [(2,0)] (nextL q4.nb [2])=[1,3]:=by decide
 rw[e1]at b1
 have b2:=b1.step
 have e2:fresh ([(2,0)]++[1,3].map fun x=>(x,1)) (nextL q4.nb [1,3])=[]:=by decide
 rw[e2]at b2
 refine SQ (Qe.ds (seen:=[(2,0),(1,1),(3,1)]) ⟨by decide,fun p=>?_⟩ b2)
 simp only[pz,List.map_cons,List.map_nil,List.mem_cons,List.not_mem_nil,or_false]
 constructor
 ·rintro(h|h|h)<;>simp[h]
 ·rintro(h|h|h)<;>simp[h]
theorem Adw:q4.out=.sl true (vs Az [(1,1),(2,0),(3,1)]):=by
 unfold DQ.out
 rw[Afi,if_pos (by decide)]
def AbQ (a b c d e:Int):AV:=.agg [.int .i64 7,.int .i64 0,.int .i64 0,.str [],.sl true [(gvK 5 a).av,(gvK 6 b).av,(gvK 5 c).av,(gvK 6 d).av,(gvK 5 e).av]]
theorem al1:Au (Ac tab) 10 [JZ.av,.int .i64 1,.sl false [],.int .i64 1,.int .i64 2] (· =.sl true [.sl true [.int .i64 1],.sl true [.int .i64 2],.sl true [.int .i64 1,.int .i64 3]]):=⟨_,⟨60,by kernel_rfl⟩,rfl⟩
theorem al2:Au (Ac tab) 16 [JZ.av,.int .i64 1,.int .i64 3,.sl false [],.int .i64 1,.int .i64 0,.int .i64 6] (· =.CO [.int .i64 2,.bool true]):=⟨_,⟨60,by kernel_rfl⟩,rfl⟩
theorem al3:Au (Ac tab) 16 [JZ.av,.int .i64 1,.int .i64 3,.sl false [],.int .i64 1,.int .i64 3,.int .i64 6] (· =.CO [.int .i64 4,.bool true]):=⟨_,⟨60,by kernel_rfl⟩,rfl⟩
theorem al4:Au (Ac tab) 17 [JZ.av,.int .i64 1,.int .i64 3,.sl false [],.int .i64 1,.int .i64 0,.int .i64 6] (· =.sl true [AbQ 1 1 2 3 3,AbQ 1 4 2 3 3]):=⟨_,⟨60,by kernel_rfl⟩,rfl⟩
theorem al5:Au (Ac MH) 13 [JZ.av,.int .i64 2,.sl false [],.int .i64 1] (· =.sl true (vs Az [(1,1),(2,0),(3,1)])):=by
 have h:=Zh Afh
 rw[Adw]at h
 exact h
theorem al6:Au (Ac tab) 12 [.sl true [.int .i64 1,.int .i64 3],.sl true [.int .i64 1,.int .i64 3]] (· =.bool true):=⟨_,⟨60,by kernel_rfl⟩,rfl⟩
set_option maxHeartbeats 2000000 in
theorem D6:Au (Ac MH) 9 [] (· =.bool true):=by
 have a0:=Afg.up Le
 have a1:=al1.up Le
 have a2:=al2.up Le
 have a3:=al3.up Le
 have a4:=al4.up Le
 have a5:=al5
 have a6:=al6.up Le
 refine Af rfl rfl ?_
 (conv=>whnf);repeat' (first|((first|refine Aa a0 ?_|refine Aa a1 ?_|refine Aa a2 ?_|refine Aa a3 ?_|refine Aa a4 ?_|refine Aa a5 ?_|refine Aa a6 ?_);rintro _ rfl;conv=>whnf)|(refine kA ?_;conv=>whnf)|(refine Br.mk (fun hc=>?_) fun hc=>?_<;>first|exact hc.elim|conv=>whnf)|(refine kB ?_))
 all_goals first
  |rfl
  |(exfalso;omega)
structure Abh where
 fr:Int
 to:Int
 dir:Int
 lo:Int
 hi:Int
 tn:Bool
 types:List (List UInt8)
def Abh.av (x:Abh):AV:=.agg [.int .i64 x.fr,.int .i64 x.to,.int .i64 x.dir,.int .i64 x.lo,.int .i64 x.hi,.sl x.tn (vs .str x.types)]
theorem Afj:Tryz.prog.cellsOf 28=6:=by kernel_rfl
theorem PS {a:AV} (h:Like Tryz.prog 28 a):∃x:Abh,a=x.av∧I64 x.fr∧I64 x.to∧I64 x.dir∧I64 x.lo∧I64 x.hi∧Ln x.types:=by
 obtain⟨d,h⟩:=h
 obtain⟨cs,rfl,h0⟩:=Dx Tryz.underlying28 h
 obtain⟨d',rfl,g1,g2⟩:=C9 Tryz.underlying28 h0
 rw[Afj]at g1
 obtain⟨a,b,c,e,f,g,rfl⟩:=AbZ g1
 clear g1
 simp only[List.forall_mem_cons]at g2
 obtain⟨f1,f2,f3,f4,f5,f6,_⟩:=g2
 simp only[TD,QF,List.drop_zero,List.drop_succ_cons,List.take_succ_cons,List.take_zero]at f1 f2 f3 f4 f5 f6
 obtain⟨x1,e1,h1⟩:=D7 f1
 obtain⟨x2,e2,h2⟩:=D7 f2
 obtain⟨x3,e3,h3⟩:=D7 f3
 obtain⟨x4,e4,h4⟩:=D7 f4
 obtain⟨x5,e5,h5⟩:=D7 f5
 obtain⟨ln,L,e6,h6,h6a,h6b⟩:=Gz (f:=.str) (Q:=Ln) Tryz.underlying26 (fun d x h=>TG h) f6
 cases e1;cases e2;cases e3;cases e4;cases e5;cases e6
 exact⟨⟨x1,x2,x3,x4,x5,ln,L⟩,rfl,h1,h2,h3,h4,h5,h6a⟩
theorem AcX {g:GG} (hg:g.ok):Au (Ac tab) 8 [g.av] (· =.bool (decide (g.nodes.length≤40∧g.edges.length≤60))):=by
 have h1:=hg.1
 have h2:=hg.2.2.2.1
 unfold Ln at h1 h2
 refine Af rfl rfl ?_
 (conv=>whnf);repeat' (first  |(refine kA ?_;conv=>whnf)|(refine Br.mk (fun hc=>?_) fun hc=>?_<;>first|exact hc.elim|conv=>whnf)|(refine kB ?_))
 all_goals first|exact Dk (by omega)|exact BU (by omega)
end
def allNames (l:List (List UInt8)):Prop:=∀s∈l,isName s
noncomputable instance (l:List (List UInt8)):Decidable (allNames l):=Classical.propDecidable _
def rises (l:List (List UInt8)):Prop:=∀j (h:j+1<l.length),(Op.bytesLess l[j+1] l[j]||l[j+1]==l[j])=false
noncomputable instance (l:List (List UInt8)):Decidable (rises l):=Classical.propDecidable _
def keysOf (P:List GP):List (List UInt8):=P.map GP.key
@[simp] theorem VL (P:List GP):(keysOf P).length=P.length:=by simp[keysOf]
def allPlain (P:List GP):Prop:=∀p∈P,Gs p.v
noncomputable instance (P:List GP):Decidable (allPlain P):=Classical.propDecidable _
noncomputable def Ei (L:List (List UInt8)) (P:List GP):Int:=
 if 8<L.length∨16<P.length then 4 else if¬(allNames L∧allNames (keysOf P))then 6 else if¬(rises L∧rises (keysOf P))then 26 else if¬allPlain P then 8 else 0
attribute [irreducible] Ei
def incr (l:List Int):Prop:=∀j (h:j+1<l.length),l[j]<l[j+1]
noncomputable instance (l:List Int):Decidable (incr l):=Classical.propDecidable _
def Jf (N:List GN):List Int:=N.map GN.id
def Aev (E:List GE):List Int:=E.map GE.id
@[simp] theorem Aew (N:List GN):(Jf N).length=N.length:=by simp[Jf]
@[simp] theorem Aex (N:List GE):(Aev N).length=N.length:=by simp[Aev]
def Ho (f:Nat→Int):Nat→Int
 |0=>0
 |n+1=>if Ho f n=0 then f n else Ho f n
noncomputable def Gh (N:List GN) (nx:Int) (i:Nat):Int:=
 match N[i]? with
 |none=>0
 |some n=>if 0<i∧(∃ m,N[i-1]?=some m∧n.id≤m.id)then 26 else if n.id<1∨nx≤n.id then 1 else Ei n.labels n.props
noncomputable def FB (N:List GN) (E:List GE) (nx:Int) (i:Nat):Int:=
 match E[i]? with
 |none=>0
 |some e=>if 0<i∧(∃ m,E[i-1]?=some m∧e.id≤m.id)then 26 else if e.id<1∨nx≤e.id then 1 else if¬(e.fr∈Jf N∧e.to∈Jf N)then 10 else if¬isName e.ty then 6 else Ei [] e.props
def HY (g:GG):Prop:=g.nodes.length≤2000∧g.edges.length≤4000
def Jt (g:GG):Prop:=1≤g.GU∧g.GU≤1000001∧1≤g.Jq∧g.Jq≤1000001
instance (g:GG):Decidable (HY g):=by unfold HY;infer_instance
instance (g:GG):Decidable (Jt g):=by unfold Jt;infer_instance
noncomputable def Ej (g:GG):Int:=
 if¬HY g then 4 else if¬Jt g then 1 else
  if Ho (Gh g.nodes g.GU) g.nodes.length=0 then Ho (FB g.nodes g.edges g.Jq) g.edges.length else Ho (Gh g.nodes g.GU) g.nodes.length
attribute [irreducible] Gh FB Ej Ho
end AI
end Go.Proofs.YthjeehjphekjmaaGreatDoor
