/- The program's Distances as an entry of a greater table. The reference's validity of values: it answers. The reference's validity of values, with lists in lists. The reference's numbers, classes, strings compared. The reference's bare values and strings. The null value. The reference's order of a value and null. Valid fractions: the program's. Valid fractions: the reference's. The program's wide numbers: products, sums, signs; fractions compared. The reference's wide numbers: they are reckoned without a panic. The reference's comparison of a fraction with itself. Numbers by their digits to the base 1000: plain. The reference's wide numbers: what their product and their order are. Fractions compared: the program's way and the reference's. Valid values, exactly: the program's. Valid values, exactly: the reference's. Numbers among values. The program's order of a value and null. The order of values: plain. The order of values: the program's walks. The order of values: the reference's walks. Paths as values: their order, the program's and the reference's; sorting them in place: the order. The greater table; the worked example; the law ShortestLevels, about the evaluator. -/
import Derived.Test.YthjeehjphekjmaaGreatDoorTMai
import Derived.Test.YthjeehjphekjmaaGreatDoorTMac
import Derived.Test.YthjeehjphekjmaaGreatDoorBMaa
import Derived.Test.YthjeehjphekjmaaGreatDoorTMaa
import Derived.Test.YthjeehjphekjmaaGreatDoorTMab
set_option linter.unusedVariables false
set_option maxRecDepth 4000
namespace Go.Proofs.YthjeehjphekjmaaGreatDoor
namespace AI
section
open Go.RowKit Go.Sort
theorem GP.G7 {p q:GP} (h:p.av=q.av):p=q:=by
 obtain⟨k,a,b,c,d,e,f⟩:=p
 obtain⟨k',a',b',c',d',e',f'⟩:=q
 simp only[GP.av,AV.agg.injEq,List.cons.injEq,AV.str.injEq,AV.int.injEq,AV.sl.injEq,and_true,true_and]at h
 obtain⟨rfl,rfl,rfl,rfl,rfl,rfl,rfl⟩:=h
 rfl
theorem GN.G7 {p q:GN} (h:p.av=q.av):p=q:=by
 obtain⟨a,b,c,d,e⟩:=p
 obtain⟨a',b',c',d',e'⟩:=q
 simp only[GN.av,AV.agg.injEq,List.cons.injEq,AV.int.injEq,AV.sl.injEq,and_true,true_and]at h
 obtain⟨rfl,⟨rfl,h1⟩,rfl,h2⟩:=h
 obtain rfl:=ND (fun a b h=>AV.str.inj h) h1
 obtain rfl:=ND (fun a b h=>GP.G7 h) h2
 rfl
theorem GE.G7 {p q:GE} (h:p.av=q.av):p=q:=by
 obtain⟨a,b,c,d,e,f⟩:=p
 obtain⟨a',b',c',d',e',f'⟩:=q
 simp only[GE.av,AV.agg.injEq,List.cons.injEq,AV.int.injEq,AV.str.injEq,AV.sl.injEq,and_true,true_and]at h
 obtain⟨rfl,rfl,rfl,rfl,rfl,h2⟩:=h
 obtain rfl:=ND (fun a b h=>GP.G7 h) h2
 rfl
theorem GG.G7 {p q:GG} (h:p.av=q.av):p=q:=by
 obtain⟨a,b,c,d,e,f⟩:=p
 obtain⟨a',b',c',d',e',f'⟩:=q
 simp only[GG.av,AV.agg.injEq,List.cons.injEq,AV.int.injEq,AV.sl.injEq,and_true,true_and]at h
 obtain⟨⟨rfl,h1⟩,⟨rfl,h2⟩,rfl,rfl⟩:=h
 obtain rfl:=ND (fun a b h=>GN.G7 h) h1
 obtain rfl:=ND (fun a b h=>GE.G7 h) h2
 rfl
structure DQ where
 g:GG
 a:Int
 tn:Bool
 types:List (List UInt8)
 dir:Int
def DQ.ok (q:DQ):Prop:=q.g.ok∧U8 q.g∧q.g.nodes.length<2^62∧q.g.edges.length≤100∧q.types.length<2^63
def DQ.enc (q:DQ):List AV:=[q.g.av,.int .i64 q.a,.sl q.tn (vs .str q.types),.int .i64 q.dir]
def DQ.nb (q:DQ):Int→List Int:=CY q.types q.dir q.g.edges
theorem DQ.Abq {p q:DQ} (h:p.enc=q.enc):p=q:=by
 obtain⟨a,b,c,d,e⟩:=p
 obtain⟨a',b',c',d',e'⟩:=q
 simp only[DQ.enc,List.cons.injEq,AV.int.injEq,AV.sl.injEq,and_true,true_and]at h
 obtain⟨h1,rfl,⟨rfl,h2⟩,rfl⟩:=h
 obtain rfl:=GG.G7 h1
 obtain rfl:=ND (fun a b h=>AV.str.inj h) h2
 rfl
noncomputable def dsO (nb:Int→List Int) (a:Int):List (Int×Int):=by
 classical exact if h:∃O,DsO nb a O then Classical.choose h else[]
theorem SQ {nb:Int→List Int} {a:Int} {O:List (Int×Int)} (h:DsO nb a O):dsO nb a=O:=by
 have hx:∃O,DsO nb a O:=⟨O,h⟩
 unfold dsO
 rw[dif_pos hx]
 exact(Classical.choose_spec hx).unique h
noncomputable def DQ.out (q:DQ):AV:=if EH q.g q.a then .sl true (vs Az (dsO q.nb q.a))else .sl false []
noncomputable def IE (args:List AV) (s:Ag):Option (AX×Ag):=by
 classical exact if h:∃q:DQ,q.ok∧args=q.enc∧s=⟨[],0⟩then some (.ok (Classical.choose h).out,⟨[],0⟩)else none
theorem UW {q:DQ} (hq:q.ok):IE q.enc ⟨[],0⟩=some (.ok q.out,⟨[],0⟩):=by
 have hx:∃p:DQ,p.ok∧q.enc=p.enc∧(⟨[],0⟩:Ag)=⟨[],0⟩:=⟨q,hq,rfl,rfl⟩
 unfold IE
 rw[dif_pos hx]
 have:=DQ.Abq (Classical.choose_spec hx).2.1
 rw[← this]
theorem Ob:∀M:List (Int×Int),O8 (Fz M)=true
 |[]=>rfl
 |p::M=>by
  show(true&&O8 (Fz M))=true
  rw[Ob M];rfl
def FM (M:List (Int×Int)) (seen:List Nat):List (Int×Int):=seen.map fun i=>(M[i]?).getD (0,0)
theorem X3 {M:List (Int×Int)} {seen:List Nat} (h:seen.Perm (List.range M.length)):(FM M seen).Perm M:=by
 have h1:(FM M seen).Perm (FM M (List.range M.length)):=h.map _
 have h2:FM M (List.range M.length)=M:=by
  apply List.ext_getElem
  ·simp[FM]
  ·intro i h1 h2
   simp[FM,h2]
 rw[h2]at h1
 exact h1
theorem UY {nb:Int→List Int} {a:Int} {d:Nat} {seen:List (Int×Nat)} (hb:QA nb a d seen []) {W:List (Int×Int)} (hp:W.Perm (seen.map pz)) (hs:W.Pairwise fun x y=>Cj y x=false):DsO nb a W:=by
 have hnd:(W.map (·.1)).Nodup:=by
  have h1:(W.map (·.1)).Perm ((seen.map pz).map (·.1)):=hp.map _
  have h2:(seen.map pz).map (·.1)=seen.map (·.1):=by rw[List.map_map];rfl
  rw[h2]at h1
  exact h1.nodup_iff.2 hb.nd
 refine Qe.ds (seen:=seen) ⟨?_,fun p=>hp.mem_iff⟩ hb
 refine List.pairwise_iff_getElem.2 fun i j hi hj hij=>?_
 have h1:=List.pairwise_iff_getElem.1 hs i j hi hj hij
 have h2:¬(W[j]).1<(W[i]).1:=fun k=>by rw[Abp.2 k]at h1;cases h1
 have h3:(W[i]).1≠(W[j]).1:=fun e=>by
  have:=(List.getElem_inj (i:=i) (j:=j) (h₀:=by simpa using hi) (h₁:=by simpa using hj) hnd).1 (by simpa using e)
  omega
 omega
noncomputable abbrev fD:Func:=Tryz.f13
noncomputable abbrev aD:FK:=x13.1
noncomputable abbrev b0:Code:=AcW fD
noncomputable abbrev b1:Code:=SG b0
noncomputable abbrev b2:Code:=SG b1
noncomputable abbrev b3:Code:=SG b2
noncomputable abbrev b4:Code:=SG b3
noncomputable abbrev b5:Code:=SG b4
noncomputable abbrev b6:Code:=SG b5
noncomputable abbrev b7:Code:=SG b6
noncomputable abbrev b8:Code:=SG b7
noncomputable abbrev b9:Code:=SG b8
noncomputable abbrev e0:Am:=aD.body
noncomputable abbrev e1:Am:=SI e0
noncomputable abbrev e2:Am:=SI e1
noncomputable abbrev e3:Am:=SI e2
noncomputable abbrev e4:Am:=SI e3
noncomputable abbrev e5:Am:=SI e4
noncomputable abbrev e6:Am:=SI e5
noncomputable abbrev e7:Am:=SI e6
noncomputable abbrev e8:Am:=SI e7
noncomputable abbrev e9:Am:=SI e8
def opsOf:Code→Array Oper
 | .region _ o _=>o
 |_=>#[]
def AdB:Code→Nat
 | .region i _ _=>i
 |_=>0
def inC:Code→Code
 | .block _ c=>c
 | .loop c=>c
 |c=>c
noncomputable abbrev rB:Code:=inC (inC (SG (Ld b7)))
noncomputable abbrev rR0:Code:=Ld (Ld b7)
noncomputable abbrev rR1:Code:=Ld rB
noncomputable abbrev rIn:Code:=inC (SG (SG rB))
noncomputable abbrev rR2:Code:=Ld rIn
noncomputable abbrev rX:Code:=SG rIn
theorem UZ:Ld b7=.seq (.region (AdB rR0) (opsOf rR0) false) (.block 4 (.loop (.seq (.region (AdB rR1) (opsOf rR1) false) (.seq (.cond (.tmp 67) .skip (.exit 4)) (.block 5 (.seq (.region (AdB rR2) (opsOf rR2) false) rX)))))):=by kernel_rfl
def Tq (c:Code) (k:Nat):Oper:=((opsOf c).toList[k]?).getD default
theorem Oc {P:Program} {n:Nat} {an:List Fb} {i j:Nat} {x:Code} {a:Am} (h:BN P n an (.block i x)=some (.block j a)):BN P n an x=some a:=by
 simp only[BN]at h
 cases hx:BN P n an x with
 |none=>rw[hx]at h;cases h
 |some b=>rw[hx]at h;simp only[Option.map_some,Option.some.injEq,Am.block.injEq]at h;rw[h.2]
theorem Wh {P:Program} {n:Nat} {an:List Fb} {l:List Nat} {x:Code} {a:Am} (h:BN P n an (.loop x)=some (.loop l a)):BN P n an x=some a:=by
 simp only[BN]at h
 cases hx:BN P n an x with
 |none=>rw[hx]at h;cases h
 |some b=>rw[hx]at h;simp only[Option.map_some,Option.some.injEq,Am.loop.injEq]at h;rw[h.2]
def inA:Am→Am
 | .block _ c=>c
 | .loop _ c=>c
 |c=>c
noncomputable abbrev eB:Am:=inA (inA (SI (SH e7)))
noncomputable abbrev eIn:Am:=inA (SI (SI eB))
noncomputable abbrev eX:Am:=SI eIn
theorem Wi {an:List Fb} (hc:BN Tryz.prog fD.ntmps an (Ld b7)=some (SH e7)):BN Tryz.prog fD.ntmps an rX=some eX:=by
 have d1:=(CS (x:=rR0) (y:=SG (Ld b7)) (a:=SH (SH e7)) (b:=SI (SH e7)) hc).2
 have d2:=Oc (i:=4) (j:=4) (x:=inC (SG (Ld b7))) (a:=inA (SI (SH e7))) d1
 have d3:=Wh (l:=l13_2_h) (x:=rB) (a:=eB) d2
 have d4:=(CS (x:=rR1) (y:=SG rB) (a:=SH eB) (b:=SI eB) d3).2
 have d5:=(CS (x:=Ld (SG rB)) (y:=SG (SG rB)) (a:=SH (SI eB)) (b:=SI (SI eB)) d4).2
 have d6:=Oc (i:=5) (j:=5) (x:=rIn) (a:=eIn) d5
 exact(CS (x:=rR2) (y:=rX) (a:=SH eIn) (b:=eX) d6).2
theorem Wj {M:List (Int×Int)} {seen:List Nat} {i:Nat} (h:i<M.length):FM M (seen++[i])=FM M seen++[M[i]]:=by
 simp[FM,h]
theorem ZX {n:Nat} {l:List Nat} (h1:l.Nodup) (h2:∀j∈l,j<n):l.length≤n:=by
 have:=List.Nodup.length_le_of_subset (l₂:=List.range n) h1 fun j hj=>List.mem_range.2 (h2 j hj)
 rwa [List.length_range]at this
set_option maxHeartbeats 4000000 in
set_option maxRecDepth 10000 in
theorem X4 {Ap Bv:Obj} {gm g3 c:Nat} {M:List (Int×Int)} (hM:M.length≤100000) {an:List Fb} (hc:BN Tryz.prog fD.ntmps an (Ld b7)=some (SH e7)) {Q:Ak→Env→Ag→Prop}
 (hQ:∀gg fo c' seen x,seen.Perm (List.range M.length)→(seen≠[]→fo=true)→Q .normal [(67,.bool false),(66,.junk),(18,.own 3 gg 0 (FM M seen).length),(65,.ref 4 c 0 0)] ⟨[Ap,Bv,.dead,.arr gg 2 fo true (vs Az (FM M seen)),.raw c x],c'⟩):
 AW Tryz.prog fD.ntmps (Ld b7) [(10,.map 2 gm),(18,.own 3 g3 0 0)] ⟨[Ap,Bv,.mp gm true (Fz M),.arr g3 2 false true []],c⟩ Q:=by
 rw[UZ]
 have hfz:EY [10] [(10,.map 2 gm),(18,.own 3 g3 0 0)] ⟨[Ap,Bv,.mp gm true (Fz M),.arr g3 2 false true []],c⟩=some ([(10,.fmap (Fz M)),(10,.map 2 gm),(18,.own 3 g3 0 0)],⟨[Ap,Bv,.dead,.arr g3 2 false true []],c⟩):=by
  have:=Ob M
  simp[EY,Env.get,nth,this]
 refine AW.range (AP:=Ac tab) Ig mixed (anA:=[]) (anB:=[]) (it:=65) (nx:=66) (more:=67) (pair:=68) (VH:=[Tq rR0 0]) (oR:=Tq rR0 1) (oN:=Tq rR1 0) (oX:=Tq rR1 1) (oE:=Tq rR2 0) (XC:=[Tq rR2 1,Tq rR2 2,Tq rR2 3,Tq rR2 4])
  (AaN:=[⟨some 64,.mov (.tmp 10),none⟩]) (AaO:=[⟨some 69,.ext (.tmp 68) 0,none⟩,⟨some 70,.ext (.tmp 68) 1,none⟩,⟨some 19,.mov (.tmp 69),none⟩,⟨some 20,.mov (.tmp 70),none⟩])
  (t:=70) (kt:=3) (et:=3) (xm:=.tmp 64) (am:=.tmp 64)
  (by kernel_rfl) (by kernel_rfl) (by kernel_rfl) (by kernel_rfl) (by kernel_rfl) (by kernel_rfl) (by kernel_rfl) (of_decide_eq_true (by kernel_rfl))
  (by kernel_rfl) (by kernel_rfl) (by kernel_rfl) (by kernel_rfl) (by kernel_rfl) (by kernel_rfl) (by kernel_rfl) (of_decide_eq_true (by kernel_rfl)) (of_decide_eq_true (by kernel_rfl)) (by decide)
  (by kernel_rfl) (by kernel_rfl) (by kernel_rfl) (by kernel_rfl) (of_decide_eq_true (by kernel_rfl)) (by kernel_rfl) (Wi hc) hfz (L:=[18,65]) (ents:=Fz M)
  (J:=fun x seen env s=>∃(gg:Nat) (fo:Bool) (c':Nat),seen.Nodup∧(∀ j∈seen,j<M.length)∧(seen≠[]→fo=true)∧env=[(18,.own 3 gg 0 (FM M seen).length),(65,.ref 4 c 0 0)]∧s=⟨[Ap,Bv,.dead,.arr gg 2 fo true (vs Az (FM M seen)),.raw c x],c'⟩) ?_
 refine⟨0,_,_,_,rfl,rfl,rfl,_,_,rfl,rfl,fun x=>⟨_,_,_,List.nodup_nil,by simp,fun h=>absurd rfl h,rfl,rfl⟩,?_,?_,?_⟩
 ·rintro x seen env s ⟨gg,fo,c',_,_,_,rfl,rfl⟩
  exact⟨rfl,rfl⟩
 ·rintro x x' seen i env s e ⟨gg,fo,c',hnd,hlt,hfo,rfl,rfl⟩ he hins
  obtain⟨hi,rfl⟩:∃h:i<M.length,e=(AV.int .i64 (M[i]).1,AV.int .i64 (M[i]).2):=by
   rw[AZ]at he
   obtain⟨h,rfl⟩:=List.getElem?_eq_some_iff.1 he
   have h2:i<M.length:=by simpa[Fz,L6]using h
   exact⟨h2,by simp[Fz,L6]⟩
  have hsl:=ZX hnd hlt
  have hbl:(FM M seen).length=seen.length:=by simp[FM]
  have hbs:=Wj (seen:=seen) hi
  have AgT:(seen++[i]).Nodup:=List.nodup_append.2 ⟨hnd,by simp,fun x hx y hy=>by simp at hy;subst hy;rintro rfl;exact hins hx⟩
  have hlt2:∀j∈seen++[i],j<M.length:=fun j hj=>by
   rcases List.mem_append.1 hj with hj|hj
   ·exact hlt j hj
   ·simp at hj;omega
  refine⟨0,_,_,_,rfl,rfl,Hl ?_⟩
  conv=>whnf
  (conv=>whnf);repeat' (first|(refine Kz (f:=Az) (l:=FM M seen) (x:=M[i]) Bd rfl (by omega) ?_;conv=>whnf)|(refine kA ?_;conv=>whnf)|(refine Br.mk (fun hc=>?_) fun hc=>?_<;>first|exact hc.elim|conv=>whnf)|(refine kB ?_))
  all_goals first
   |(exfalso;omega)
   |(rw [hbs,List.length_append];exact⟨.inl rfl,_,_,_,AgT,hlt2,fun _=>rfl,rfl,rfl⟩)
 ·rintro x seen env s ⟨gg,fo,c',hnd,hlt,hfo,rfl,rfl⟩ hp
  have hl:(Fz M).length=M.length:=by simp[Fz,L6]
  rw[hl]at hp
  exact hQ gg fo c' seen x hp hfo
set_option maxHeartbeats 4000000 in
set_option maxRecDepth 10000 in
theorem AdC {q:DQ} (hq:q.ok) {an:List Fb} (hc:BN Tryz.prog fD.ntmps an b0=some e0):AW Tryz.prog fD.ntmps b0 (params q.enc 0) ⟨[],0⟩ fun e env s=>(e=.normal∨e=.ret)∧∃vs,FW env s aD.results=some vs∧(E5 vs).closed=true∧E5 vs=q.out:=by
 obtain⟨hg,hf,hl,hE,ht⟩:=hq
 have c0:=CS (x:=Ld b0) (y:=b1) (a:=SH e0) (b:=e1) hc
 have c1:=CS (x:=Ld b1) (y:=b2) (a:=SH e1) (b:=e2) c0.2
 have c2:=CS (x:=Ld b2) (y:=b3) (a:=SH e2) (b:=e3) c1.2
 have c3:=CS (x:=Ld b3) (y:=b4) (a:=SH e3) (b:=e4) c2.2
 have c4:=CS (x:=Ld b4) (y:=b5) (a:=SH e4) (b:=e5) c3.2
 have c5:=CS (x:=Ld b5) (y:=b6) (a:=SH e5) (b:=e6) c4.2
 have c6:=CS (x:=Ld b6) (y:=b7) (a:=SH e6) (b:=e7) c5.2
 have c7:=CS (x:=Ld b7) (y:=b8) (a:=SH e7) (b:=e8) c6.2
 have c8:=CS (x:=Ld b8) (y:=b9) (a:=SH e8) (b:=e9) c7.2
 have p1:=RH hg hf hl (a:=q.a)
 refine AW.go (x:=Ld b0) (y:=b1) Ig mixed c0.1 ?_
 conv=>whnf
 (conv=>whnf);repeat' (first  |(refine kA ?_;conv=>whnf)|(refine Br.mk (fun hc=>?_) fun hc=>?_<;>first|exact hc.elim|conv=>whnf)|(refine kB ?_))
 refine⟨?_⟩
 show AW _ _ b1 _ _ _
 refine AW.go (x:=Ld b1) (y:=b2) Ig mixed c1.1 ?_
 by_cases hn:EH q.g q.a
 case neg=>
  rw[decide_eq_false hn]at p1
  conv=>whnf
  (conv=>whnf);repeat' (first|(refine Aa p1 ?_;rintro _ rfl;conv=>whnf)|(refine kA ?_;conv=>whnf)|(refine Br.mk (fun hc=>?_) fun hc=>?_<;>first|exact hc.elim|conv=>whnf)|(refine kB ?_))
  all_goals first
   |(refine ⟨?_⟩;exact⟨.inr rfl,_,rfl,rfl,by unfold DQ.out;rw[if_neg hn];rfl⟩)
 rw[decide_eq_true hn]at p1
 conv=>whnf
 (conv=>whnf);repeat' (first|(refine Aa p1 ?_;rintro _ rfl;conv=>whnf)|(refine kA ?_;conv=>whnf)|(refine Br.mk (fun hc=>?_) fun hc=>?_<;>first|exact hc.elim|conv=>whnf)|(refine kB ?_))
 refine⟨?_⟩
 show AW _ _ b2 _ _ _
 refine AW.go (x:=Ld b2) (y:=b3) Ig mixed c2.1 ?_
 conv=>whnf
 (conv=>whnf);repeat' (first  |(refine kA ?_;conv=>whnf)|(refine Br.mk (fun hc=>?_) fun hc=>?_<;>first|exact hc.elim|conv=>whnf)|(refine kB ?_))
 refine⟨?_⟩
 show AW _ _ b3 _ _ _
 refine AW.go (x:=Ld b3) (y:=b4) Ig mixed c3.1 ?_
 conv=>whnf
 (conv=>whnf);repeat' (first|(apply msI (M:=[]);conv=>whnf)|(refine kA ?_;conv=>whnf)|(refine Br.mk (fun hc=>?_) fun hc=>?_<;>first|exact hc.elim|conv=>whnf)|(refine kB ?_))
 refine⟨?_⟩
 show AW _ _ b4 _ _ _
 refine AW.go (x:=Ld b4) (y:=b5) Ig mixed c4.1 ?_
 conv=>whnf
 (conv=>whnf);repeat' (first  |(refine kA ?_;conv=>whnf)|(refine Br.mk (fun hc=>?_) fun hc=>?_<;>first|exact hc.elim|conv=>whnf)|(refine kB ?_))
 refine⟨?_⟩
 show AW _ _ b5 _ _ _
 refine AW.go (x:=Ld b5) (y:=b6) Ig mixed c5.1 ?_
 conv=>whnf
 (conv=>whnf);repeat' (first  |(refine kA ?_;conv=>whnf)|(refine Br.mk (fun hc=>?_) fun hc=>?_<;>first|exact hc.elim|conv=>whnf)|(refine kB ?_))
 refine AeL hg hE ht (fun d seen c' tl hB=>?_)
 (conv=>whnf);repeat' (first  |(refine kA ?_;conv=>whnf)|(refine Br.mk (fun hc=>?_) fun hc=>?_<;>first|exact hc.elim|conv=>whnf)|(refine kB ?_))
 refine⟨?_⟩
 show AW _ _ b6 _ _ _
 refine AW.go (x:=Ld b6) (y:=b7) Ig mixed c6.1 ?_
 conv=>whnf
 (conv=>whnf);repeat' (first  |(refine kA ?_;conv=>whnf)|(refine Br.mk (fun hc=>?_) fun hc=>?_<;>first|exact hc.elim|conv=>whnf)|(refine kB ?_))
 refine⟨?_⟩
 have hMl:=hB.few
 have hSl:(seen.map pz).length≤2000:=by rw[List.length_map];omega
 refine AW.seq (x:=Ld b7) (y:=b8) (X4 (M:=seen.map pz) (by omega) c7.1 fun gg fo c2 sn x hp hfo=>?_)
 have hbp:=X3 hp
 have hbl:=hbp.length_eq
 show AW _ _ b8 _ _ _
 refine AW.go (x:=Ld b8) (y:=b9) Ig mixed c8.1 ?_
 conv=>whnf
 (conv=>whnf);repeat' (first  |(refine kA ?_;conv=>whnf)|(refine Br.mk (fun hc=>?_) fun hc=>?_<;>first|exact hc.elim|conv=>whnf)|(refine kB ?_))
 refine(AdD (L:=FM (seen.map pz) sn) rfl (by omega)).mono ?_
 rintro _ _ ⟨c3,W,rfl,rfl,w1,w2⟩
 have hwl:=w1.length_eq
 conv=>whnf
 apply Ai rfl
 (conv=>whnf);repeat' (first  |(refine kA ?_;conv=>whnf)|(refine Br.mk (fun hc=>?_) fun hc=>?_<;>first|exact hc.elim|conv=>whnf)|(refine kB ?_))
 refine⟨?_⟩
 show AW _ _ b9 _ _ _
 refine AW.fin (x:=b9) Ig mixed c8.2 ?_
 conv=>whnf
 (conv=>whnf);repeat' (first  |(refine kA ?_;conv=>whnf)|(refine Br.mk (fun hc=>?_) fun hc=>?_<;>first|exact hc.elim|conv=>whnf)|(refine kB ?_))
 have hds:=SQ (UY hB (w1.trans hbp) w2)
 have hsn:sn≠[]:=fun e=>by
  rw[e]at hp
  have h1:=hp.length_eq
  rw[List.length_range,List.length_map]at h1
  have h2:=hB.all 0 hB.pos q.a ((EU _).2 rfl)
  have h3:=List.length_pos_of_mem h2
  rw[List.length_map]at h3
  simp only[List.length_nil]at h1
  omega
 have ef:=hfo hsn
 refine⟨.inr rfl,_,rfl,rfl,?_⟩
 show AV.sl fo (sub (vs Az W) 0 (FM (seen.map pz) sn).length)=q.out
 rw[ef,←hwl,uV]
 unfold DQ.out
 rw[if_pos hn]
 unfold DQ.nb
 rw[hds]
theorem Abf:Ba Tryz.prog fun f' args s=>if f'=13 then IE args s else none:=by
 intro f0 args s out s' h
 replace h:(if f0=13 then IE args s else none)=some (out,s'):=h
 rcases Decidable.em (f0=13)with hf|hf
 case inr=>rw[if_neg hf]at h;cases h
 rw[if_pos hf]at h
 subst hf
 unfold IE at h
 split at h
 case isFalse=>cases h
 rename_i hx
 have hcs:=Classical.choose_spec hx
 simp only[Option.some.injEq,Prod.mk.injEq]at h
 obtain⟨rfl,rfl⟩:=h
 generalize Classical.choose hx=q at hcs
 obtain⟨hq,rfl,rfl⟩:=hcs
 refine fun w0 B Z φ w vs hI hargs=>.inl ⟨⟨_,Tryz.func13,rfl,by decide⟩,?_⟩
 obtain⟨b,hb,hcm,hrs,_⟩:=VI x13.2
 obtain rfl:b=b0:=by
  have:fD.body=some b0:=by kernel_rfl
  exact Option.some.inj (hb.symm.trans this)
 refine(Ze (R:=fun v=>v=q.out) Tryz.func13 hb hrs (of_decide_eq_true (by kernel_rfl)) (AdC hq hcm) hI hargs).mono ?_
 rintro e w1 ⟨v,rfl,Z',φ',hI',hL,hR⟩
 exact⟨Z',φ',hI',hL,hR⟩
end
theorem bare {g:GV} {n d s l:Bool}:Au (Ac tab) 132 [g.av,.bool n,.bool d,.bool s,.bool l] (fun v=>∃b,v=.bool b):=by
 cases n<;>cases d<;>cases s<;>cases l<;>(
 refine Af rfl rfl ?_
 (conv=>whnf);repeat' (first|(refine kA ?_;conv=>whnf)|(refine Br.mk (fun hc=>?_) fun hc=>?_<;>first|exact hc.elim|conv=>whnf)  |(refine kB ?_))
 all_goals exact⟨_,rfl⟩)
theorem Agg {n:Int}:Au (Ac tab) 133 [.int .i64 n] (fun v=>∃b,v=.bool b):=by
 refine Af rfl rfl ?_
 (conv=>whnf);repeat' (first|(refine kA ?_;conv=>whnf)|(refine Br.mk (fun hc=>?_) fun hc=>?_<;>first|exact hc.elim|conv=>whnf)  |(refine kB ?_))
 all_goals exact⟨_,rfl⟩
theorem size {n:Int} (h1:-2^62≤n) (h2:n≤2^62):Au (Ac tab) 94 [.int .i64 n] (fun v=>∃z,v=.int .i64 z∧0≤z∧(z=n∨z=-n)):=by
 refine Af rfl rfl ?_
 (conv=>whnf);repeat' (first|(refine kA ?_;conv=>whnf)|(refine Br.mk (fun hc=>?_) fun hc=>?_<;>first|exact hc.elim|conv=>whnf)  |(refine kB ?_))
 all_goals exact⟨_,rfl,by omega,by omega⟩
theorem gcd {a b:Int} (h1:0≤a) (h2:0≤b):Au (Ac tab) 137 [.int .i64 a,.int .i64 b] (fun v=>∃z,v=.int .i64 z):=by
 refine Af rfl rfl ?_
 (conv=>whnf);repeat' (first|(refine kA ?_;conv=>whnf)|(refine Br.mk (fun hc=>?_) fun hc=>?_<;>first|exact hc.elim|conv=>whnf)  |(refine kB ?_))
 refine Ae (fun m env s=>∃(a b:Int),m=b.toNat∧0≤a∧0≤b∧env=[(0,.int .i64 a),(1,.int .i64 b)]∧s=⟨[],0⟩) ?_ _ _ _ ⟨a,b,rfl,h1,h2,rfl,rfl⟩
 clear h1 h2 a b
 rintro _ _ _ ⟨a,b,rfl,h1,h2,rfl,rfl⟩
 refine⟨rfl,?_⟩
 (conv=>whnf);repeat' (first|(refine kA ?_;conv=>whnf)|(refine Br.mk (fun hc=>?_) fun hc=>?_<;>first|exact hc.elim|conv=>whnf)  |(refine kB ?_))
 ·have e:a.tmod b=a % b:=Int.tmod_eq_emod_of_nonneg h1
  have:=Int.emod_lt_of_pos a (by omega:0<b)
  have:=Int.emod_nonneg a (by omega:b≠0)
  exact again.mk ⟨_,by rw[e];omega,_,_,rfl,h2,by rw[e];omega,rfl,rfl⟩
 ·exact⟨_,rfl⟩
theorem AcE {n d:Int}:Au (Ac tab) 90 [.agg [.int .i64 n,.int .i64 d]] (fun v=>∃b,v=.bool b∧(b=true→1≤d∧d≤1000000000000000∧-1000000000000000≤n∧n≤1000000000000000)):=by
 refine Af rfl rfl ?_
 (conv=>whnf);repeat' (first|(refine kA ?_;conv=>whnf)|(refine Br.mk (fun hc=>?_) fun hc=>?_<;>first|exact hc.elim|conv=>whnf)|(refine Aa (size (n:=n) (by omega) (by omega)) ?_;rintro _ ⟨z,rfl,hz1,hz2⟩;conv=>whnf)|(refine Aa (gcd (by omega) (by omega)) ?_;rintro _ ⟨z2,rfl⟩;conv=>whnf)|(refine kB ?_))
 all_goals first|exact⟨_,rfl,fun _=>by omega⟩|exact⟨_,rfl,fun h=>absurd h Bool.false_ne_true⟩
theorem Aes {s:List UInt8} (hl:s.length<2^63):Au (Ac tab) 134 [.str s] (fun v=>∃b,v=.bool b):=by
 refine Af rfl rfl ?_
 (conv=>whnf);repeat' (first|(refine kA ?_;conv=>whnf)|(refine Br.mk (fun hc=>?_) fun hc=>?_<;>first|exact hc.elim|conv=>whnf)  |(refine kB ?_))
 refine Ae (fun m env s'=>∃i:Nat,m=s.length-i∧env=[(0,.str s),(3,.int .i64 i)]∧s'=⟨[],0⟩) ?_ _ _ _ ⟨0,rfl,rfl,rfl⟩
 rintro _ _ _ ⟨i,rfl,rfl,rfl⟩
 refine⟨rfl,?_⟩
 (conv=>whnf);repeat' (first|(refine kA ?_;conv=>whnf)|(refine Br.mk (fun hc=>?_) fun hc=>?_<;>first|exact hc.elim|conv=>whnf)  |(refine kB ?_))
 all_goals first|exact⟨_,rfl⟩|exact again.mk ⟨_,by omega,i+1,rfl,rfl,rfl⟩
theorem XZ {g:GV} {n:Int} (h:g.k=5∨g.k=6):Au (Ac tab) 87 [g.av,.int .i64 n] (fun v=>∃b,v=.bool b):=by
 refine Af rfl rfl ?_
 (conv=>whnf);repeat' (first|(refine kA ?_;conv=>whnf)|(refine Br.mk (fun hc=>?_) fun hc=>?_<;>first|exact hc.elim|conv=>whnf)|(refine Aa (bare (g:=g)) ?_;rintro _ ⟨b,rfl⟩;conv=>whnf)|(refine kB ?_))
 all_goals exact⟨_,rfl⟩
theorem AcF {l:List AV} {nn:Bool} (hl:l.length<2^63) (h:∀x∈l,Like Tryz.prog 45 x):Au (Ac tab) 135 [.sl nn l] (fun v=>∃b,v=.bool b):=by
 refine Af rfl rfl ?_
 (conv=>whnf);repeat' (first|(refine kA ?_;conv=>whnf)|(refine Br.mk (fun hc=>?_) fun hc=>?_<;>first|exact hc.elim|conv=>whnf)  |(refine kB ?_))
 all_goals first|exact⟨_,rfl⟩|skip
 refine Ae (fun m env s'=>∃i:Nat,m=l.length-i∧env=[(0,.sl nn l),(3,.int .i64 i)]∧s'=⟨[],0⟩) ?_ _ _ _ ⟨0,rfl,rfl,rfl⟩
 rintro _ _ _ ⟨i,rfl,rfl,rfl⟩
 refine⟨rfl,?_⟩
 obtain⟨gx,hgx⟩:=WS h i
 (conv=>whnf);repeat' (first|(refine kA ?_;conv=>whnf)|(refine Br.mk (fun hc=>?_) fun hc=>?_<;>first|exact hc.elim|conv=>whnf)|(apply AU;(· exact(hgx (by omega)).1);conv=>whnf)|(refine Aa (XZ (g:=gx) (by omega)) ?_;rintro _ ⟨b,rfl⟩;conv=>whnf)|(refine kB ?_))
 all_goals first|exact⟨_,rfl⟩|exact again.mk ⟨_,by omega,i+1,rfl,rfl,rfl⟩
theorem Aeq {l:List AV} {nn:Bool} (hl:l.length<2^63):Au (Ac tab) 136 [.sl nn l,.int .i64 0] (fun v=>∃b,v=.bool b):=by
 refine Af rfl rfl ?_
 (conv=>whnf);repeat' (first|(refine kA ?_;conv=>whnf)|(refine Br.mk (fun hc=>?_) fun hc=>?_<;>first|exact hc.elim|conv=>whnf)  |(refine kB ?_))
 all_goals exact⟨_,rfl⟩
theorem Aer {n:Nat} (ih:∀{g:GV},g.ok→Au (Ac tab) 87 [g.av,.int .i64 n] (fun v=>∃b,v=.bool b)) (hn:n<2^60) {l:List AV} {nn:Bool} (hl:l.length<2^63) (h:∀x∈l,Like Tryz.prog 45 x):
 Au (Ac tab) 136 [.sl nn l,.int .i64 (n+1:Nat)] (fun v=>∃b,v=.bool b):=by
 refine Af rfl rfl ?_
 (conv=>whnf);repeat' (first|(refine kA ?_;conv=>whnf)|(refine Br.mk (fun hc=>?_) fun hc=>?_<;>first|exact hc.elim|conv=>whnf)  |(refine kB ?_))
 all_goals first|exact⟨_,rfl⟩|skip
 refine Ae (fun m env s'=>∃i:Nat,m=l.length-i∧env=[(0,.sl nn l),(1,.int .i64 (n+1:Nat)),(5,.int .i64 i)]∧s'=⟨[],0⟩) ?_ _ _ _ ⟨0,rfl,rfl,rfl⟩
 rintro _ _ _ ⟨i,rfl,rfl,rfl⟩
 refine⟨rfl,?_⟩
 obtain⟨gx,hgx⟩:=WS h i
 have ih':∀{g:GV},g.ok→Au (Ac tab) 87 [g.av,.int .i64 (((n+1:Nat):Int)-1)] (fun v=>∃b,v=.bool b):=by
  rw[show ((n+1:Nat):Int)-1=(n:Int) by omega];exact ih
 (conv=>whnf);repeat' (first|(refine kA ?_;conv=>whnf)|(refine Br.mk (fun hc=>?_) fun hc=>?_<;>first|exact hc.elim|conv=>whnf)|(apply AU;(· exact(hgx (by omega)).1);conv=>whnf)|(refine Aa (ih' (g:=gx) (hgx (by omega)).2.2) ?_;rintro _ ⟨b,rfl⟩;conv=>whnf)|(refine kB ?_))
 all_goals first|exact⟨_,rfl⟩|exact again.mk ⟨_,by omega,i+1,rfl,rfl,rfl⟩
theorem YG {n:Int} {g:GV} (hg:g.ok) (hlist:Au (Ac tab) 136 [.sl g.nn g.l,.int .i64 n] (fun v=>∃b,v=.bool b)):
 Au (Ac tab) 87 [g.av,.int .i64 n] (fun v=>∃b,v=.bool b):=by
 obtain⟨g1,g2,g3,g4,g5,g6,g7⟩:=hg
 unfold Ln at g4 g5
 refine Af rfl rfl ?_
 (conv=>whnf);repeat' (first|(refine kA ?_;conv=>whnf)|(refine Br.mk (fun hc=>?_) fun hc=>?_<;>first|exact hc.elim|conv=>whnf)|(refine Aa (bare (g:=g)) ?_;rintro _ ⟨b,rfl⟩;conv=>whnf)|(refine Aa (Agg (n:=g.n)) ?_;rintro _ ⟨b,rfl⟩;conv=>whnf)|(refine Aa (AcE (n:=g.n) (d:=g.d)) ?_;rintro _ ⟨b,rfl,_⟩;conv=>whnf)|(refine Aa (Aes g4) ?_;rintro _ ⟨b,rfl⟩;conv=>whnf)|(refine Aa (AcF g5 g7) ?_;rintro _ ⟨b,rfl⟩;conv=>whnf)|(refine Aa hlist ?_;rintro _ ⟨b,rfl⟩;conv=>whnf)|(refine kB ?_))
 all_goals exact⟨_,rfl⟩
theorem valid {n:Nat} (hn:n<2^60):∀{g:GV},g.ok→Au (Ac tab) 87 [g.av,.int .i64 n] (fun v=>∃b,v=.bool b):=by
 induction n with
 |zero=>intro g hg;exact YG hg (Aeq hg.2.2.2.2.1)
 |succ n ih=>intro g hg;exact YG hg (Aer (ih (by omega)) (by omega) hg.2.2.2.2.1 hg.2.2.2.2.2.2)
theorem Valid {g:GV} (hg:g.ok):Au (Ac tab) 56 [g.av] (fun v=>∃b,v=.bool b):=by
 refine Af rfl rfl ?_
 (conv=>whnf);repeat' (first|(refine kA ?_;conv=>whnf)|(refine Br.mk (fun hc=>?_) fun hc=>?_<;>first|exact hc.elim|conv=>whnf)|(refine Aa (valid (n:=8) (by omega) hg) ?_;rintro _ ⟨b,rfl⟩;conv=>whnf)|(refine kB ?_))
 all_goals exact⟨_,rfl⟩
theorem number {g:GV} (hg:g.ok):Au (Ac tab) 61 [g.av] (fun v=>∃n d b,v=.CO [.agg [.int .i64 n,.int .i64 d],.bool b]):=by
 refine Af rfl rfl ?_
 (conv=>whnf);repeat' (first|(refine kA ?_;conv=>whnf)|(refine Br.mk (fun hc=>?_) fun hc=>?_<;>first|exact hc.elim|conv=>whnf)|(refine Aa (Valid hg) ?_;rintro _ ⟨b,rfl⟩;conv=>whnf)|(refine kB ?_))
 all_goals exact⟨_,_,_,rfl⟩
def QI (v:GV) (n d s l:Bool):Prop:=(n=true∨v.n=0)∧(d=true∨v.d=0)∧(s=true∨v.s=[])∧(l=true∨v.l.length=0)
instance (v:GV) (n d s l:Bool):Decidable (QI v n d s l):=by unfold QI;infer_instance
theorem AdR {v:GV} {n d s l:Bool} (hl:v.l.length<2^63):Au (Ac tab) 132 [v.av,.bool n,.bool d,.bool s,.bool l] (· =.bool (decide (QI v n d s l))):=by
 cases n<;>cases d<;>cases s<;>cases l
 all_goals
  refine Af rfl rfl ?_
  (conv=>whnf);repeat' (first|(refine kA ?_;conv=>whnf)|(refine Br.mk (fun hc=>?_) fun hc=>?_<;>first|exact hc.elim|conv=>whnf)  |(refine kB ?_))
 all_goals first
  |(refine Dk ?_;unfold QI;refine⟨?_,?_,?_,?_⟩<;>first|(left;rfl)|(right;first|assumption|omega))
  |(refine BU ?_;unfold QI;rintro⟨h1,h2,h3,h4⟩;simp only[Bool.false_eq_true,false_or,true_or]at h1 h2 h3 h4;first|contradiction|omega)
theorem AfT {s:List UInt8} (hl:s.length<2^63):Au (Ac tab) 134 [.str s] (· =.bool (decide (okS s))):=by
 refine Af rfl rfl ?_
 (conv=>whnf);repeat' (first|(refine kA ?_;conv=>whnf)|(refine Br.mk (fun hc=>?_) fun hc=>?_<;>first|exact hc.elim|conv=>whnf)  |(refine kB ?_))
 refine Ae (fun m env s'=>∃i:Nat,m=s.length-i∧env=[(0,.str s),(3,.int .i64 i)]∧s'=⟨[],0⟩∧∀c∈s.take i,Ol c=false) ?_ _ _ _ ⟨0,rfl,rfl,rfl,by simp⟩
 rintro _ _ _ ⟨i,rfl,rfl,rfl,hx⟩
 refine⟨rfl,?_⟩
 (conv=>whnf);repeat' (first|(refine kA ?_;conv=>whnf)|(refine Br.mk (fun hc=>?_) fun hc=>?_<;>first|exact hc.elim|conv=>whnf)  |(refine kB ?_))
 all_goals first
  |exact again.mk ⟨_,by omega,i+1,rfl,rfl,rfl,FZ (by omega) hx (by unfold Ol;simp;omega)⟩
  |(refine BU fun h=>?_;have:=h.2 s[i] (List.getElem_mem (by omega));unfold Ol at this;simp at this;omega)
  |(rw [List.take_of_length_le (by omega)]at hx;exact Dk ⟨by omega,hx⟩)
  |(refine BU fun h=>?_;have:=h.1;omega)
def isNull (v:GV):Prop:=v.k=0∧v.n=0∧v.d=0∧v.s=[]∧v.l.length=0
instance (v:GV):Decidable (isNull v):=by unfold isNull;infer_instance
def Dig (l:List Int):Prop:=l.length=14∧∀x∈l,0≤x∧x≤999
theorem Dig.set {l:List Int} (h:Dig l) {k:Nat} {y:Int} (hy:0≤y∧y≤999):Dig (l.set k y):=by
 refine⟨by rw[List.length_set];exact h.1,fun x hx=>?_⟩
 rcases List.mem_or_eq_of_mem_set hx with hx|rfl
 ·exact h.2 x hx
 ·exact hy
def Carry (j:Nat) (y:Int):Prop:=0≤y∧((j≤6∧y≤999)∨(j=7∧y≤1)∨(j=8∧y=0))
def sgn (n:Int):Int:=if n<0 then -1 else if 0<n then 1 else 0
def val:List Int→Int
 |[]=>0
 |x::l=>x+1000*val l
def VLi (m:Nat) (l:List AV):Prop:=∀i (h:i<l.length),∃x:GV,l[i]=x.av∧VV m x
noncomputable instance (m:Nat) (g:GV):Decidable (VV m g):=Classical.propDecidable _
noncomputable instance (l:List AV):Decidable (VPa l):=Classical.propDecidable _
noncomputable instance (m:Nat) (l:List AV):Decidable (VLi m l):=Classical.propDecidable _
def Afx (g:GV):Prop:=VV 8 g∧(g.k=2∨g.k=3)
noncomputable instance (g:GV):Decidable (Afx g):=by unfold Afx;infer_instance
def dn (g:GV):Int:=if g.k=2 then 1 else g.d
def AcI (k:Int):Int:=if k=3 then 2 else if k=7 then 9 else k
section
open Go.Sort
def AaT:AV→GV
 | .agg [.int _ k,.int _ n,.int _ d,.str s,.sl nn l]=>⟨k,n,d,s,nn,l⟩
 |_=>⟨0,0,0,[],false,[]⟩
def JU (c:AV→AV→Int):List AV→List AV→Int
 |[],[]=>0
 |[],_::_=>-1
 |_::_,[]=>1
 |a::x,b::y=>OU (c a b) (JU c x y)
theorem PU {c:AV→AV→Int} (hc:PC c):∀x y,JU c y x=-JU c x y
 |[],[]=>rfl
 |[],_::_=>rfl
 |_::_,[]=>rfl
 |a::x,b::y=>by
  have h1:=hc.anti a b
  have h2:=PU hc x y
  simp only[JU,OU]
  split<;>split<;>omega
theorem NY {c:AV→AV→Int} (hc:PC c):∀x y z,JU c x y≤0→JU c y z≤0→JU c x z≤0
 |[],_,[],_,_=>Int.le_refl 0
 |[],_,_::_,_,_=>by show(-1:Int)≤0;omega
 |_::_,[],_,h,_=>absurd h (by show¬(1:Int)≤0;omega)
 |_::_,_::_,[],_,h=>absurd h (by show¬(1:Int)≤0;omega)
 |a::x,b::y,d::z,h1,h2=>by
  have ih:=NY hc x y z
  have a1:=hc.trans a b d
  have a2:=hc.trans b d a
  have a3:=hc.trans d a b
  have b1:=hc.anti a b
  have b2:=hc.anti b d
  have b3:=hc.anti a d
  simp only[JU,OU]at*
  split at h1<;>split at h2<;>split<;>omega
theorem PC.lists {c:AV→AV→Int} (hc:PC c):PC (JU c):=⟨PU hc,NY hc⟩
def pd (g:GV):Int:=if dn g≤0 then 1 else dn g
def AeP (a b:GV):Int:=sgn (a.n*pd b-b.n*pd a)
def AeQ:Nat→GV→GV→Int
 |0,_,_=>0
 |m+1,a,b=>OU (Ia (AcI a.k) (AcI b.k)) (if AcI a.k=2 then AeP a b else OU (cS a.s b.s) (OU (Ia a.n b.n) (JU (fun x y=>AeQ m (AaT x) (AaT y)) a.l b.l)))
theorem PC.two {α:Type} {d e:α→α→Int} {p:α→Prop} [DecidablePred p] (hd:PC d) (he:PC e):PC fun x y=>if p x then if p y then d x y else -1 else if p y then 1 else e x y where
 anti x y:=by
  have h2:=hd.anti x y
  have h3:=he.anti x y
  by_cases hx:p x<;>by_cases hy:p y<;>simp only[hx,hy,if_true,if_false]<;>first|assumption|rfl
 trans x y z h1 h2:=by
  have d1:=hd.trans x y z
  have e1:=he.trans x y z
  by_cases hx:p x<;>by_cases hy:p y<;>by_cases hz:p z<;>simp only[hx,hy,hz,if_true,if_false]at* <;>first|exact d1 h1 h2|exact e1 h1 h2|omega
noncomputable def Ad4:Nat→GV→GV→Int
 |0,_,_=>0
 |m+1,a,b=>if VV 8 a then if VV 8 b then AeQ (m+1) a b else -1 else if VV 8 b then 1 else
   OU (Ia a.k b.k) (OU (Ia a.n b.n) (OU (Ia a.d b.d) (OU (cS a.s b.s) (JU (fun x y=>Ad4 m (AaT x) (AaT y)) a.l b.l))))
end
section
open Go.Sort
end
section
open Go.Sort
end
section
open Go.Sort
def gvK (k:Int) (n:Int):GV:=⟨k,n,0,[],false,[]⟩
def wav (k:Int):List Int→List AV
 |[]=>[]
 |n::l=>(gvK k n).av::wav (11-k) l
def gvP (l:List Int):GV:=⟨7,0,0,[],true,wav 5 l⟩
theorem WH:∀{l m:List Int} {k:Int},wav k l=wav k m→l=m
 |[],[],_,_=>rfl
 |[],b::m,_,h=>by simp[wav]at h
 |a::l,[],_,h=>by simp[wav]at h
 |a::l,b::m,k,h=>by
  simp only[wav,List.cons.injEq]at h
  obtain⟨h1,h2⟩:=h
  have e:a=b:=by
   simp only[GV.av,gvK,AV.agg.injEq,List.cons.injEq,AV.int.injEq]at h1
   exact h1.2.1.2
  rw[e,WH h2]
structure Wk where
 l:List Int
 h:l.length≤1000∧∀n∈l,I64 n
def Wk.av (x:Wk):AV:=(gvP x.l).av
instance:DecidableEq Wk:=fun x y=>if h:x.l=y.l then isTrue (by obtain⟨l,hl⟩:=x;obtain⟨m,hm⟩:=y;obtain rfl:l=m:=h;rfl)else isFalse fun e=>h (by rw[e])
instance:Inhabited Wk:=⟨⟨[],by simp,by simp⟩⟩
theorem Wk.G7 {x y:Wk} (h:x.av=y.av):x=y:=by
 obtain⟨l,hl⟩:=x;obtain⟨m,hm⟩:=y
 simp only[Wk.av,gvP,GV.av,AV.agg.injEq,List.cons.injEq,AV.sl.injEq]at h
 have:=WH h.2.2.2.2.1.2
 subst this
 rfl
noncomputable def Yq (x:Wk):Int:=if VV 8 (gvP x.l)then((x.l.length / 2:Nat):Int)else -1
noncomputable def Ad3 (x y:Wk):Int:=OU (Ia (Yq x) (Yq y)) (Ad4 2 (gvP x.l) (gvP y.l))
noncomputable def AfW (x y:Wk):Bool:=decide (Ad3 x y<0)
attribute [irreducible] AfW Ad3 Yq
end
section
open Go.RowKit
noncomputable def MH:List (Nat×Gv):=(13,.ext IE)::tab
theorem Adv:Ac tab 13=none:=by kernel_rfl
theorem Le:∀f a,Ac tab f=some a→Ac MH f=some a:=XD Adv
theorem Abe:OB Tryz.prog (Ac MH):=by
 intro f a h
 simp only[MH,Ac]at h
 cases hb:Nat.beq 13 f with
 |false=>rw[hb,cond_false]at h;exact Zr f a h
 |true=>
  rw[hb,cond_true]at h
  have e:=Nat.eq_of_beq_eq_true hb
  subst e
  cases h
  exact Abf
theorem RU (n:Nat):Ba Tryz.prog (run (Ac MH) n):=Kr mixed Abe n
theorem Zh {q:DQ} (hq:q.ok):Au (Ac MH) 13 q.enc (· =q.out):=by
 refine⟨q.out,⟨1,?_⟩,rfl⟩
 have h1:run (Ac MH) 1 13 q.enc ⟨[],0⟩=some (.ok q.out,⟨[],0⟩):=UW hq
 simp only[Dv,h1]
 unfold DQ.out
 split
 ·rfl
 ·rfl
def JZ:GG:=⟨true,[⟨1,false,[],false,[]⟩,⟨2,false,[],false,[]⟩,⟨3,false,[],false,[]⟩],true,
 [⟨1,1,2,[84],false,[]⟩,⟨2,2,1,[84],false,[]⟩,⟨3,2,3,[84],false,[]⟩,⟨4,1,2,[84],false,[]⟩],4,5⟩
theorem Afg:Au (Ac tab) 29 [] (· =JZ.av):=⟨_,⟨60,by kernel_rfl⟩,rfl⟩
theorem Abg:JZ.ok:=by
 unfold GG.ok JZ Ln I64
 dsimp only
 refine⟨by simp,by simp,?_,by simp,by simp,?_,by omega,by omega⟩
 ·intro n hn
  simp only[List.mem_cons,List.not_mem_nil,or_false]at hn
  rcases hn with rfl|rfl|rfl<;>(unfold GN.ok Ln I64;dsimp only;refine⟨by omega,by simp,by simp,by simp,by simp,by simp,by simp⟩)
 ·intro n hn
  simp only[List.mem_cons,List.not_mem_nil,or_false]at hn
  rcases hn with rfl|rfl|rfl|rfl<;>(unfold GE.ok Ln I64;dsimp only;refine⟨by omega,by omega,by omega,by simp,by simp,by simp,by simp⟩)
theorem ZM:U8 JZ:=by
 intro n hn
 simp only[JZ,List.mem_cons,List.not_mem_nil,or_false]at hn
 rcases hn with rfl|rfl|rfl<;>exact⟨by simp,by simp,by simp⟩
def q4:DQ:=⟨JZ,2,false,[],1⟩
theorem Afh:q4.ok:=⟨Abg,ZM,by decide,by decide,by decide⟩
theorem Afi:dsO q4.nb q4.a=[(1,1),(2,0),(3,1)]:=by
 have b1:=(QA.start q4.nb 2).step
 have e1:fresh [(2,0)] (nextL q4.nb [2])=[1,3]:=by decide
 rw[e1]at b1
 have b2:=b1.step
 have e2:fresh ([(2,0)]++[1,3].map fun x=>(x,1)) (nextL q4.nb [1,3])=[]:=by decide
 rw[e2]at b2
 refine SQ (Qe.ds (seen:=[(2,0),(1,1),(3,1)]) ⟨by decide,fun p=>?_⟩ b2)
 simp only[pz,List.map_cons,List.map_nil,List.mem_cons,List.not_mem_nil,or_false]
 constructor
 ·rintro(h|h|h)<;>simp[h]
 ·rintro(h|h|h)<;>simp[h]
theorem Adw:q4.out=.sl true (vs Az [(1,1),(2,0),(3,1)]):=by
 unfold DQ.out
 rw[Afi,if_pos (by decide)]
def AbQ (a b c d e:Int):AV:=.agg [.int .i64 7,.int .i64 0,.int .i64 0,.str [],.sl true [(gvK 5 a).av,(gvK 6 b).av,(gvK 5 c).av,(gvK 6 d).av,(gvK 5 e).av]]
theorem al1:Au (Ac tab) 10 [JZ.av,.int .i64 1,.sl false [],.int .i64 1,.int .i64 2] (· =.sl true [.sl true [.int .i64 1],.sl true [.int .i64 2],.sl true [.int .i64 1,.int .i64 3]]):=⟨_,⟨60,by kernel_rfl⟩,rfl⟩
theorem al2:Au (Ac tab) 16 [JZ.av,.int .i64 1,.int .i64 3,.sl false [],.int .i64 1,.int .i64 0,.int .i64 6] (· =.CO [.int .i64 2,.bool true]):=⟨_,⟨60,by kernel_rfl⟩,rfl⟩
theorem al3:Au (Ac tab) 16 [JZ.av,.int .i64 1,.int .i64 3,.sl false [],.int .i64 1,.int .i64 3,.int .i64 6] (· =.CO [.int .i64 4,.bool true]):=⟨_,⟨60,by kernel_rfl⟩,rfl⟩
theorem al4:Au (Ac tab) 17 [JZ.av,.int .i64 1,.int .i64 3,.sl false [],.int .i64 1,.int .i64 0,.int .i64 6] (· =.sl true [AbQ 1 1 2 3 3,AbQ 1 4 2 3 3]):=⟨_,⟨60,by kernel_rfl⟩,rfl⟩
theorem al5:Au (Ac MH) 13 [JZ.av,.int .i64 2,.sl false [],.int .i64 1] (· =.sl true (vs Az [(1,1),(2,0),(3,1)])):=by
 have h:=Zh Afh
 rw[Adw]at h
 exact h
theorem al6:Au (Ac tab) 12 [.sl true [.int .i64 1,.int .i64 3],.sl true [.int .i64 1,.int .i64 3]] (· =.bool true):=⟨_,⟨60,by kernel_rfl⟩,rfl⟩
set_option maxHeartbeats 2000000 in
theorem D6:Au (Ac MH) 9 [] (· =.bool true):=by
 have a0:=Afg.up Le
 have a1:=al1.up Le
 have a2:=al2.up Le
 have a3:=al3.up Le
 have a4:=al4.up Le
 have a5:=al5
 have a6:=al6.up Le
 refine Af rfl rfl ?_
 (conv=>whnf);repeat' (first|((first|refine Aa a0 ?_|refine Aa a1 ?_|refine Aa a2 ?_|refine Aa a3 ?_|refine Aa a4 ?_|refine Aa a5 ?_|refine Aa a6 ?_);rintro _ rfl;conv=>whnf)|(refine kA ?_;conv=>whnf)|(refine Br.mk (fun hc=>?_) fun hc=>?_<;>first|exact hc.elim|conv=>whnf)|(refine kB ?_))
 all_goals first
  |rfl
  |(exfalso;omega)
structure Abh where
 fr:Int
 to:Int
 dir:Int
 lo:Int
 hi:Int
 tn:Bool
 types:List (List UInt8)
def Abh.av (x:Abh):AV:=.agg [.int .i64 x.fr,.int .i64 x.to,.int .i64 x.dir,.int .i64 x.lo,.int .i64 x.hi,.sl x.tn (vs .str x.types)]
theorem Afj:Tryz.prog.cellsOf 28=6:=by kernel_rfl
theorem PS {a:AV} (h:Like Tryz.prog 28 a):∃x:Abh,a=x.av∧I64 x.fr∧I64 x.to∧I64 x.dir∧I64 x.lo∧I64 x.hi∧Ln x.types:=by
 obtain⟨d,h⟩:=h
 obtain⟨cs,rfl,h0⟩:=Dx Tryz.underlying28 h
 obtain⟨d',rfl,g1,g2⟩:=C9 Tryz.underlying28 h0
 rw[Afj]at g1
 obtain⟨a,b,c,e,f,g,rfl⟩:=AbZ g1
 clear g1
 simp only[List.forall_mem_cons]at g2
 obtain⟨f1,f2,f3,f4,f5,f6,_⟩:=g2
 simp only[TD,QF,List.drop_zero,List.drop_succ_cons,List.take_succ_cons,List.take_zero]at f1 f2 f3 f4 f5 f6
 obtain⟨x1,e1,h1⟩:=D7 f1
 obtain⟨x2,e2,h2⟩:=D7 f2
 obtain⟨x3,e3,h3⟩:=D7 f3
 obtain⟨x4,e4,h4⟩:=D7 f4
 obtain⟨x5,e5,h5⟩:=D7 f5
 obtain⟨ln,L,e6,h6,h6a,h6b⟩:=Gz (f:=.str) (Q:=Ln) Tryz.underlying26 (fun d x h=>TG h) f6
 cases e1;cases e2;cases e3;cases e4;cases e5;cases e6
 exact⟨⟨x1,x2,x3,x4,x5,ln,L⟩,rfl,h1,h2,h3,h4,h5,h6a⟩
theorem AcX {g:GG} (hg:g.ok):Au (Ac tab) 8 [g.av] (· =.bool (decide (g.nodes.length≤40∧g.edges.length≤60))):=by
 have h1:=hg.1
 have h2:=hg.2.2.2.1
 unfold Ln at h1 h2
 refine Af rfl rfl ?_
 (conv=>whnf);repeat' (first  |(refine kA ?_;conv=>whnf)|(refine Br.mk (fun hc=>?_) fun hc=>?_<;>first|exact hc.elim|conv=>whnf)|(refine kB ?_))
 all_goals first|exact Dk (by omega)|exact BU (by omega)
end
end AI
end Go.Proofs.YthjeehjphekjmaaGreatDoor
