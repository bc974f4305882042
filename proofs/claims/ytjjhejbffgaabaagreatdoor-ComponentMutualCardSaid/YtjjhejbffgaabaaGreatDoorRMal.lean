/- The program's Distances as an entry of a greater table. The greater table. Components as data: lists of labels, and a forest of sets whose representatives are their least elements. Plain. Lists of labels: Find, Join (both), Same. The forest of component.Weak: add, find, union. component.edges: the edges of some types. Join, both; Same. Names in a list, increasing strings, labels and properties. -/
import Derived.Test.YtjjhejbffgaabaaGreatDoorRMak
import GoSem.Dispatch
import Derived.Test.YtjjhejbffgaabaaGreatDoorRMag
import Derived.Test.YtjjhejbffgaabaaGreatDoorRMai
set_option linter.unusedVariables false
set_option maxRecDepth 4000
namespace Go.Proofs.YtjjhejbffgaabaaGreatDoor
namespace AI
section
open Go.RowKit Go.Sort
theorem GP.I7 {p q:GP} (h:p.av=q.av):p=q:=by
 obtain⟨k,a,b,c,d,e,f⟩:=p
 obtain⟨k',a',b',c',d',e',f'⟩:=q
 simp only[GP.av,AV.agg.injEq,List.cons.injEq,AV.str.injEq,AV.int.injEq,AV.sl.injEq,and_true,true_and]at h
 obtain⟨rfl,rfl,rfl,rfl,rfl,rfl,rfl⟩:=h
 rfl
theorem GN.I7 {p q:GN} (h:p.av=q.av):p=q:=by
 obtain⟨a,b,c,d,e⟩:=p
 obtain⟨a',b',c',d',e'⟩:=q
 simp only[GN.av,AV.agg.injEq,List.cons.injEq,AV.int.injEq,AV.sl.injEq,and_true,true_and]at h
 obtain⟨rfl,⟨rfl,h1⟩,rfl,h2⟩:=h
 obtain rfl:=OZ (fun a b h=>AV.str.inj h) h1
 obtain rfl:=OZ (fun a b h=>GP.I7 h) h2
 rfl
theorem GE.I7 {p q:GE} (h:p.av=q.av):p=q:=by
 obtain⟨a,b,c,d,e,f⟩:=p
 obtain⟨a',b',c',d',e',f'⟩:=q
 simp only[GE.av,AV.agg.injEq,List.cons.injEq,AV.int.injEq,AV.str.injEq,AV.sl.injEq,and_true,true_and]at h
 obtain⟨rfl,rfl,rfl,rfl,rfl,h2⟩:=h
 obtain rfl:=OZ (fun a b h=>GP.I7 h) h2
 rfl
theorem GG.I7 {p q:GG} (h:p.av=q.av):p=q:=by
 obtain⟨a,b,c,d,e,f⟩:=p
 obtain⟨a',b',c',d',e',f'⟩:=q
 simp only[GG.av,AV.agg.injEq,List.cons.injEq,AV.int.injEq,AV.sl.injEq,and_true,true_and]at h
 obtain⟨⟨rfl,h1⟩,⟨rfl,h2⟩,rfl,rfl⟩:=h
 obtain rfl:=OZ (fun a b h=>GN.I7 h) h1
 obtain rfl:=OZ (fun a b h=>GE.I7 h) h2
 rfl
structure DQ where
 g:GG
 a:Int
 tn:Bool
 types:List (List UInt8)
 dir:Int
def DQ.ok (q:DQ):Prop:=q.g.ok∧ZW q.g∧q.g.nodes.length<2^62∧q.g.edges.length≤100∧q.types.length<2^63
def DQ.enc (q:DQ):List AV:=[q.g.av,.int .i64 q.a,.sl q.tn (vs .str q.types),.int .i64 q.dir]
def DQ.nb (q:DQ):Int→List Int:=N9 q.types q.dir q.g.edges
theorem DQ.Aew {p q:DQ} (h:p.enc=q.enc):p=q:=by
 obtain⟨a,b,c,d,e⟩:=p
 obtain⟨a',b',c',d',e'⟩:=q
 simp only[DQ.enc,List.cons.injEq,AV.int.injEq,AV.sl.injEq,and_true,true_and]at h
 obtain⟨h1,rfl,⟨rfl,h2⟩,rfl⟩:=h
 obtain rfl:=GG.I7 h1
 obtain rfl:=OZ (fun a b h=>AV.str.inj h) h2
 rfl
noncomputable def dsO (nb:Int→List Int) (a:Int):List (Int×Int):=by
 classical exact if h:∃O,DsO nb a O then Classical.choose h else[]
theorem AbV {nb:Int→List Int} {a:Int} {O:List (Int×Int)} (h:DsO nb a O):dsO nb a=O:=by
 have hx:∃O,DsO nb a O:=⟨O,h⟩
 unfold dsO
 rw[dif_pos hx]
 exact(Classical.choose_spec hx).unique h
noncomputable def DQ.out (q:DQ):AV:=if ZX q.g q.a then .sl true (vs A8 (dsO q.nb q.a))else .sl false []
noncomputable def Ji (args:List AV) (s:Ag):Option (AU×Ag):=by
 classical exact if h:∃q:DQ,q.ok∧args=q.enc∧s=⟨[],0⟩then some (.ok (Classical.choose h).out,⟨[],0⟩)else none
theorem Vt {q:DQ} (hq:q.ok):Ji q.enc ⟨[],0⟩=some (.ok q.out,⟨[],0⟩):=by
 have hx:∃p:DQ,p.ok∧q.enc=p.enc∧(⟨[],0⟩:Ag)=⟨[],0⟩:=⟨q,hq,rfl,rfl⟩
 unfold Ji
 rw[dif_pos hx]
 have:=DQ.Aew (Classical.choose_spec hx).2.1
 rw[← this]
theorem PL:∀M:List (Int×Int),QT (DF M)=true
 |[]=>rfl
 |p::M=>by
  show(true&&QT (DF M))=true
  rw[PL M];rfl
def Gg (M:List (Int×Int)) (seen:List Nat):List (Int×Int):=seen.map fun i=>(M[i]?).getD (0,0)
theorem Aay {M:List (Int×Int)} {seen:List Nat} (h:seen.Perm (List.range M.length)):(Gg M seen).Perm M:=by
 have h1:(Gg M seen).Perm (Gg M (List.range M.length)):=h.map _
 have h2:Gg M (List.range M.length)=M:=by
  apply List.ext_getElem
  ·simp[Gg]
  ·intro i h1 h2
   simp[Gg,h2]
 rw[h2]at h1
 exact h1
theorem Pm {nb:Int→List Int} {a:Int} {d:Nat} {seen:List (Int×Nat)} (hb:SB nb a d seen []) {W:List (Int×Int)} (hp:W.Perm (seen.map pz)) (hs:W.Pairwise fun x y=>CU y x=false):DsO nb a W:=by
 have hnd:(W.map (·.1)).Nodup:=by
  have h1:(W.map (·.1)).Perm ((seen.map pz).map (·.1)):=hp.map _
  have h2:(seen.map pz).map (·.1)=seen.map (·.1):=by rw[List.map_map];rfl
  rw[h2]at h1
  exact h1.nodup_iff.2 hb.nd
 refine AgP.ds (seen:=seen) ⟨?_,fun p=>hp.mem_iff⟩ hb
 refine List.pairwise_iff_getElem.2 fun i j hi hj hij=>?_
 have h1:=List.pairwise_iff_getElem.1 hs i j hi hj hij
 have h2:¬(W[j]).1<(W[i]).1:=fun k=>by rw[YE.2 k]at h1;cases h1
 have h3:(W[i]).1≠(W[j]).1:=fun e=>by
  have:=(List.getElem_inj (i:=i) (j:=j) (h₀:=by simpa using hi) (h₁:=by simpa using hj) hnd).1 (by simpa using e)
  omega
 omega
noncomputable abbrev fD:Func:=Tryz.f43
noncomputable abbrev aD:F9:=x43.1
noncomputable abbrev b0:Code:=Aej fD
noncomputable abbrev b1:Code:=UQ b0
noncomputable abbrev b2:Code:=UQ b1
noncomputable abbrev b3:Code:=UQ b2
noncomputable abbrev b4:Code:=UQ b3
noncomputable abbrev b5:Code:=UQ b4
noncomputable abbrev b6:Code:=UQ b5
noncomputable abbrev b7:Code:=UQ b6
noncomputable abbrev b8:Code:=UQ b7
noncomputable abbrev b9:Code:=UQ b8
noncomputable abbrev e0:AA:=aD.body
noncomputable abbrev e1:AA:=UU e0
noncomputable abbrev e2:AA:=UU e1
noncomputable abbrev e3:AA:=UU e2
noncomputable abbrev e4:AA:=UU e3
noncomputable abbrev e5:AA:=UU e4
noncomputable abbrev e6:AA:=UU e5
noncomputable abbrev e7:AA:=UU e6
noncomputable abbrev e8:AA:=UU e7
noncomputable abbrev e9:AA:=UU e8
def opsOf:Code→Array Oper
 | .region _ o _=>o
 |_=>#[]
def Ag4:Code→Nat
 | .region i _ _=>i
 |_=>0
def inC:Code→Code
 | .block _ c=>c
 | .loop c=>c
 |c=>c
noncomputable abbrev rB:Code:=inC (inC (UQ (Nl b7)))
noncomputable abbrev rR0:Code:=Nl (Nl b7)
noncomputable abbrev rR1:Code:=Nl rB
noncomputable abbrev rIn:Code:=inC (UQ (UQ rB))
noncomputable abbrev rR2:Code:=Nl rIn
noncomputable abbrev rX:Code:=UQ rIn
theorem Xa:Nl b7=.seq (.region (Ag4 rR0) (opsOf rR0) false) (.block 4 (.loop (.seq (.region (Ag4 rR1) (opsOf rR1) false) (.seq (.cond (.tmp 67) .skip (.exit 4)) (.block 5 (.seq (.region (Ag4 rR2) (opsOf rR2) false) rX)))))):=by kernel_rfl
def U7 (c:Code) (k:Nat):Oper:=((opsOf c).toList[k]?).getD default
theorem PN {P:Program} {n:Nat} {an:List Fb} {i j:Nat} {x:Code} {a:AA} (h:BP P n an (.block i x)=some (.block j a)):BP P n an x=some a:=by
 simp only[BP]at h
 cases hx:BP P n an x with
 |none=>rw[hx]at h;cases h
 |some b=>rw[hx]at h;simp only[Option.map_some,Option.some.injEq,AA.block.injEq]at h;rw[h.2]
theorem Yr {P:Program} {n:Nat} {an:List Fb} {l:List Nat} {x:Code} {a:AA} (h:BP P n an (.loop x)=some (.loop l a)):BP P n an x=some a:=by
 simp only[BP]at h
 cases hx:BP P n an x with
 |none=>rw[hx]at h;cases h
 |some b=>rw[hx]at h;simp only[Option.map_some,Option.some.injEq,AA.loop.injEq]at h;rw[h.2]
def inA:AA→AA
 | .block _ c=>c
 | .loop _ c=>c
 |c=>c
noncomputable abbrev eB:AA:=inA (inA (UU (UR e7)))
noncomputable abbrev eIn:AA:=inA (UU (UU eB))
noncomputable abbrev eX:AA:=UU eIn
theorem Yt {an:List Fb} (hc:BP Tryz.prog fD.ntmps an (Nl b7)=some (UR e7)):BP Tryz.prog fD.ntmps an rX=some eX:=by
 have d1:=(Dt (x:=rR0) (y:=UQ (Nl b7)) (a:=UR (UR e7)) (b:=UU (UR e7)) hc).2
 have d2:=PN (i:=4) (j:=4) (x:=inC (UQ (Nl b7))) (a:=inA (UU (UR e7))) d1
 have d3:=Yr (l:=l43_2_h) (x:=rB) (a:=eB) d2
 have d4:=(Dt (x:=rR1) (y:=UQ rB) (a:=UR eB) (b:=UU eB) d3).2
 have d5:=(Dt (x:=Nl (UQ rB)) (y:=UQ (UQ rB)) (a:=UR (UU eB)) (b:=UU (UU eB)) d4).2
 have d6:=PN (i:=5) (j:=5) (x:=rIn) (a:=eIn) d5
 exact(Dt (x:=rR2) (y:=rX) (a:=UR eIn) (b:=eX) d6).2
theorem Yu {M:List (Int×Int)} {seen:List Nat} {i:Nat} (h:i<M.length):Gg M (seen++[i])=Gg M seen++[M[i]]:=by
 simp[Gg,h]
theorem AcL {n:Nat} {l:List Nat} (h1:l.Nodup) (h2:∀j∈l,j<n):l.length≤n:=by
 have:=List.Nodup.length_le_of_subset (l₂:=List.range n) h1 fun j hj=>List.mem_range.2 (h2 j hj)
 rwa [List.length_range]at this
set_option maxHeartbeats 4000000 in
set_option maxRecDepth 10000 in
theorem Aaz {AX BA:Obj} {gm g3 c:Nat} {M:List (Int×Int)} (hM:M.length≤100000) {an:List Fb} (hc:BP Tryz.prog fD.ntmps an (Nl b7)=some (UR e7)) {Q:Ar→Env→Ag→Prop}
 (hQ:∀gg fo c' seen x,seen.Perm (List.range M.length)→(seen≠[]→fo=true)→Q .normal [(67,.bool false),(66,.junk),(18,.own 3 gg 0 (Gg M seen).length),(65,.ref 4 c 0 0)] ⟨[AX,BA,.dead,.arr gg 2 fo true (vs A8 (Gg M seen)),.raw c x],c'⟩):
 AW Tryz.prog fD.ntmps (Nl b7) [(10,.map 2 gm),(18,.own 3 g3 0 0)] ⟨[AX,BA,.mp gm true (DF M),.arr g3 2 false true []],c⟩ Q:=by
 rw[Xa]
 have hfz:EZ [10] [(10,.map 2 gm),(18,.own 3 g3 0 0)] ⟨[AX,BA,.mp gm true (DF M),.arr g3 2 false true []],c⟩=some ([(10,.fmap (DF M)),(10,.map 2 gm),(18,.own 3 g3 0 0)],⟨[AX,BA,.dead,.arr g3 2 false true []],c⟩):=by
  have:=PL M
  simp[EZ,Env.get,nth,this]
 refine AW.range (AP:=Ac tab) IY mixed (anA:=[]) (anB:=[]) (it:=65) (nx:=66) (more:=67) (pair:=68) (Xz:=[U7 rR0 0]) (oR:=U7 rR0 1) (oN:=U7 rR1 0) (oX:=U7 rR1 1) (oE:=U7 rR2 0) (ZK:=[U7 rR2 1,U7 rR2 2,U7 rR2 3,U7 rR2 4])
  (AdJ:=[⟨some 64,.Xl (.tmp 10),none⟩]) (AdK:=[⟨some 69,.ext (.tmp 68) 0,none⟩,⟨some 70,.ext (.tmp 68) 1,none⟩,⟨some 19,.Xl (.tmp 69),none⟩,⟨some 20,.Xl (.tmp 70),none⟩])
  (t:=73) (kt:=3) (et:=3) (xm:=.tmp 64) (am:=.tmp 64)
  (by kernel_rfl) (by kernel_rfl) (by kernel_rfl) (by kernel_rfl) (by kernel_rfl) (by kernel_rfl) (by kernel_rfl) (of_decide_eq_true (by kernel_rfl))
  (by kernel_rfl) (by kernel_rfl) (by kernel_rfl) (by kernel_rfl) (by kernel_rfl) (by kernel_rfl) (by kernel_rfl) (of_decide_eq_true (by kernel_rfl)) (of_decide_eq_true (by kernel_rfl)) (by decide)
  (by kernel_rfl) (by kernel_rfl) (by kernel_rfl) (by kernel_rfl) (of_decide_eq_true (by kernel_rfl)) (by kernel_rfl) (Yt hc) hfz (L:=[18,65]) (ents:=DF M)
  (J:=fun x seen env s=>∃(gg:Nat) (fo:Bool) (c':Nat),seen.Nodup∧(∀ j∈seen,j<M.length)∧(seen≠[]→fo=true)∧env=[(18,.own 3 gg 0 (Gg M seen).length),(65,.ref 4 c 0 0)]∧s=⟨[AX,BA,.dead,.arr gg 2 fo true (vs A8 (Gg M seen)),.raw c x],c'⟩) ?_
 refine⟨0,_,_,_,rfl,rfl,rfl,_,_,rfl,rfl,fun x=>⟨_,_,_,List.nodup_nil,by simp,fun h=>absurd rfl h,rfl,rfl⟩,?_,?_,?_⟩
 ·rintro x seen env s ⟨gg,fo,c',_,_,_,rfl,rfl⟩
  exact⟨rfl,rfl⟩
 ·rintro x x' seen i env s e ⟨gg,fo,c',hnd,hlt,hfo,rfl,rfl⟩ he hins
  obtain⟨hi,rfl⟩:∃h:i<M.length,e=(AV.int .i64 (M[i]).1,AV.int .i64 (M[i]).2):=by
   rw[Az]at he
   obtain⟨h,rfl⟩:=List.getElem?_eq_some_iff.1 he
   have h2:i<M.length:=by simpa[DF,F8]using h
   exact⟨h2,by simp[DF,F8]⟩
  have hsl:=AcL hnd hlt
  have hbl:(Gg M seen).length=seen.length:=by simp[Gg]
  have hbs:=Yu (seen:=seen) hi
  have AkW:(seen++[i]).Nodup:=List.nodup_append.2 ⟨hnd,by simp,fun x hx y hy=>by simp at hy;subst hy;rintro rfl;exact hins hx⟩
  have hlt2:∀j∈seen++[i],j<M.length:=fun j hj=>by
   rcases List.mem_append.1 hj with hj|hj
   ·exact hlt j hj
   ·simp at hj;omega
  refine⟨0,_,_,_,rfl,rfl,Ir ?_⟩
  conv=>whnf
  (conv=>whnf);repeat' (first|(refine Abe (f:=A8) (l:=Gg M seen) (x:=M[i]) BG rfl (by omega) ?_;conv=>whnf)|(refine kA ?_;conv=>whnf)|(refine Br.mk (fun hc=>?_) fun hc=>?_<;>first|exact hc.elim|conv=>whnf)|(refine kB ?_))
  all_goals first
   |(exfalso;omega)
   |(rw [hbs,List.length_append];exact⟨.inl rfl,_,_,_,AkW,hlt2,fun _=>rfl,rfl,rfl⟩)
 ·rintro x seen env s ⟨gg,fo,c',hnd,hlt,hfo,rfl,rfl⟩ hp
  have hl:(DF M).length=M.length:=by simp[DF,F8]
  rw[hl]at hp
  exact hQ gg fo c' seen x hp hfo
set_option maxHeartbeats 4000000 in
set_option maxRecDepth 10000 in
theorem Ag5 {q:DQ} (hq:q.ok) {an:List Fb} (hc:BP Tryz.prog fD.ntmps an b0=some e0):AW Tryz.prog fD.ntmps b0 (params q.enc 0) ⟨[],0⟩ fun e env s=>(e=.normal∨e=.ret)∧∃vs,FH env s aD.results=some vs∧(EF vs).closed=true∧EF vs=q.out:=by
 obtain⟨hg,hf,hl,hE,ht⟩:=hq
 have c0:=Dt (x:=Nl b0) (y:=b1) (a:=UR e0) (b:=e1) hc
 have c1:=Dt (x:=Nl b1) (y:=b2) (a:=UR e1) (b:=e2) c0.2
 have c2:=Dt (x:=Nl b2) (y:=b3) (a:=UR e2) (b:=e3) c1.2
 have c3:=Dt (x:=Nl b3) (y:=b4) (a:=UR e3) (b:=e4) c2.2
 have c4:=Dt (x:=Nl b4) (y:=b5) (a:=UR e4) (b:=e5) c3.2
 have c5:=Dt (x:=Nl b5) (y:=b6) (a:=UR e5) (b:=e6) c4.2
 have c6:=Dt (x:=Nl b6) (y:=b7) (a:=UR e6) (b:=e7) c5.2
 have c7:=Dt (x:=Nl b7) (y:=b8) (a:=UR e7) (b:=e8) c6.2
 have c8:=Dt (x:=Nl b8) (y:=b9) (a:=UR e8) (b:=e9) c7.2
 have p1:=Aek hg hf hl (a:=q.a)
 refine AW.go (x:=Nl b0) (y:=b1) IY mixed c0.1 ?_
 conv=>whnf
 (conv=>whnf);repeat' (first  |(refine kA ?_;conv=>whnf)|(refine Br.mk (fun hc=>?_) fun hc=>?_<;>first|exact hc.elim|conv=>whnf)|(refine kB ?_))
 refine⟨?_⟩
 show AW _ _ b1 _ _ _
 refine AW.go (x:=Nl b1) (y:=b2) IY mixed c1.1 ?_
 by_cases hn:ZX q.g q.a
 case neg=>
  rw[decide_eq_false hn]at p1
  conv=>whnf
  (conv=>whnf);repeat' (first|(refine Aa p1 ?_;rintro _ rfl;conv=>whnf)|(refine kA ?_;conv=>whnf)|(refine Br.mk (fun hc=>?_) fun hc=>?_<;>first|exact hc.elim|conv=>whnf)|(refine kB ?_))
  all_goals first
   |(refine ⟨?_⟩;exact⟨.inr rfl,_,rfl,rfl,by unfold DQ.out;rw[if_neg hn];rfl⟩)
 rw[decide_eq_true hn]at p1
 conv=>whnf
 (conv=>whnf);repeat' (first|(refine Aa p1 ?_;rintro _ rfl;conv=>whnf)|(refine kA ?_;conv=>whnf)|(refine Br.mk (fun hc=>?_) fun hc=>?_<;>first|exact hc.elim|conv=>whnf)|(refine kB ?_))
 refine⟨?_⟩
 show AW _ _ b2 _ _ _
 refine AW.go (x:=Nl b2) (y:=b3) IY mixed c2.1 ?_
 conv=>whnf
 (conv=>whnf);repeat' (first  |(refine kA ?_;conv=>whnf)|(refine Br.mk (fun hc=>?_) fun hc=>?_<;>first|exact hc.elim|conv=>whnf)|(refine kB ?_))
 refine⟨?_⟩
 show AW _ _ b3 _ _ _
 refine AW.go (x:=Nl b3) (y:=b4) IY mixed c3.1 ?_
 conv=>whnf
 (conv=>whnf);repeat' (first|(apply msI (M:=[]);conv=>whnf)|(refine kA ?_;conv=>whnf)|(refine Br.mk (fun hc=>?_) fun hc=>?_<;>first|exact hc.elim|conv=>whnf)|(refine kB ?_))
 refine⟨?_⟩
 show AW _ _ b4 _ _ _
 refine AW.go (x:=Nl b4) (y:=b5) IY mixed c4.1 ?_
 conv=>whnf
 (conv=>whnf);repeat' (first  |(refine kA ?_;conv=>whnf)|(refine Br.mk (fun hc=>?_) fun hc=>?_<;>first|exact hc.elim|conv=>whnf)|(refine kB ?_))
 refine⟨?_⟩
 show AW _ _ b5 _ _ _
 refine AW.go (x:=Nl b5) (y:=b6) IY mixed c5.1 ?_
 conv=>whnf
 (conv=>whnf);repeat' (first  |(refine kA ?_;conv=>whnf)|(refine Br.mk (fun hc=>?_) fun hc=>?_<;>first|exact hc.elim|conv=>whnf)|(refine kB ?_))
 refine AiK hg hE ht (fun d seen c' tl hB=>?_)
 (conv=>whnf);repeat' (first  |(refine kA ?_;conv=>whnf)|(refine Br.mk (fun hc=>?_) fun hc=>?_<;>first|exact hc.elim|conv=>whnf)|(refine kB ?_))
 refine⟨?_⟩
 show AW _ _ b6 _ _ _
 refine AW.go (x:=Nl b6) (y:=b7) IY mixed c6.1 ?_
 conv=>whnf
 (conv=>whnf);repeat' (first  |(refine kA ?_;conv=>whnf)|(refine Br.mk (fun hc=>?_) fun hc=>?_<;>first|exact hc.elim|conv=>whnf)|(refine kB ?_))
 refine⟨?_⟩
 have hMl:=hB.few
 have hSl:(seen.map pz).length≤2000:=by rw[List.length_map];omega
 refine AW.seq (x:=Nl b7) (y:=b8) (Aaz (M:=seen.map pz) (by omega) c7.1 fun gg fo c2 sn x hp hfo=>?_)
 have hbp:=Aay hp
 have hbl:=hbp.length_eq
 show AW _ _ b8 _ _ _
 refine AW.go (x:=Nl b8) (y:=b9) IY mixed c8.1 ?_
 conv=>whnf
 (conv=>whnf);repeat' (first  |(refine kA ?_;conv=>whnf)|(refine Br.mk (fun hc=>?_) fun hc=>?_<;>first|exact hc.elim|conv=>whnf)|(refine kB ?_))
 refine(AgR (L:=Gg (seen.map pz) sn) rfl (by omega)).mono ?_
 rintro _ _ ⟨c3,W,rfl,rfl,w1,w2⟩
 have hwl:=w1.length_eq
 conv=>whnf
 apply Aj rfl
 (conv=>whnf);repeat' (first  |(refine kA ?_;conv=>whnf)|(refine Br.mk (fun hc=>?_) fun hc=>?_<;>first|exact hc.elim|conv=>whnf)|(refine kB ?_))
 refine⟨?_⟩
 show AW _ _ b9 _ _ _
 refine AW.fin (x:=b9) IY mixed c8.2 ?_
 conv=>whnf
 (conv=>whnf);repeat' (first  |(refine kA ?_;conv=>whnf)|(refine Br.mk (fun hc=>?_) fun hc=>?_<;>first|exact hc.elim|conv=>whnf)|(refine kB ?_))
 have hds:=AbV (Pm hB (w1.trans hbp) w2)
 have hsn:sn≠[]:=fun e=>by
  rw[e]at hp
  have h1:=hp.length_eq
  rw[List.length_range,List.length_map]at h1
  have h2:=hB.all 0 hB.pos q.a ((MQ _).2 rfl)
  have h3:=List.length_pos_of_mem h2
  rw[List.length_map]at h3
  simp only[List.length_nil]at h1
  omega
 have ef:=hfo hsn
 refine⟨.inr rfl,_,rfl,rfl,?_⟩
 show AV.sl fo (sub (vs A8 W) 0 (Gg (seen.map pz) sn).length)=q.out
 rw[ef,←hwl,uV]
 unfold DQ.out
 rw[if_pos hn]
 unfold DQ.nb
 rw[hds]
theorem Adm:Am Tryz.prog fun f' args s=>if f'=43 then Ji args s else none:=by
 intro f0 args s out s' h
 replace h:(if f0=43 then Ji args s else none)=some (out,s'):=h
 rcases Decidable.em (f0=43)with hf|hf
 case inr=>rw[if_neg hf]at h;cases h
 rw[if_pos hf]at h
 subst hf
 unfold Ji at h
 split at h
 case isFalse=>cases h
 rename_i hx
 have hcs:=Classical.choose_spec hx
 simp only[Option.some.injEq,Prod.mk.injEq]at h
 obtain⟨rfl,rfl⟩:=h
 generalize Classical.choose hx=q at hcs
 obtain⟨hq,rfl,rfl⟩:=hcs
 refine fun w0 B Z φ w vs hI hargs=>.inl ⟨⟨_,Tryz.func43,rfl,by decide⟩,?_⟩
 obtain⟨b,hb,hcm,hrs,_⟩:=XA x43.2
 obtain rfl:b=b0:=by
  have:fD.body=some b0:=by kernel_rfl
  exact Option.some.inj (hb.symm.trans this)
 refine(Abm (R:=fun v=>v=q.out) Tryz.func43 hb hrs (of_decide_eq_true (by kernel_rfl)) (Ag5 hq hcm) hI hargs).mono ?_
 rintro e w1 ⟨v,rfl,Z',φ',hI',hL,hR⟩
 exact⟨Z',φ',hI',hL,hR⟩
end
section
open Go.RowKit
noncomputable def Vs:List (Nat×GY):=(43,.ext Ji)::tab
theorem AfA:Ac tab 43=none:=by kernel_rfl
theorem upX:∀f a,Ac tab f=some a→Ac Vs f=some a:=ZG AfA
theorem Adl:P6 Tryz.prog (Ac Vs):=by
 intro f a h
 simp only[Vs,Ac]at h
 cases hb:Nat.beq 43 f with
 |false=>rw[hb,cond_false]at h;exact AaU f a h
 |true=>
  rw[hb,cond_true]at h
  have e:=Nat.eq_of_beq_eq_true hb
  subst e
  cases h
  exact Adm
theorem Adi (n:Nat):Am Tryz.prog (run (Ac Vs) n):=Lr mixed Adl n
theorem Ahw {q:DQ} (hq:q.ok):AQ (Ac Vs) 43 q.enc (· =q.out):=by
 refine⟨q.out,⟨1,?_⟩,rfl⟩
 have h1:run (Ac Vs) 1 43 q.enc ⟨[],0⟩=some (.ok q.out,⟨[],0⟩):=Vt hq
 simp only[Dv,h1]
 unfold DQ.out
 split
 ·rfl
 ·rfl
end
def LU (l:List (Int×Int)) (a:Int):Option Int:=(l.find? fun p=>decide (p.1=a)).map (·.2)
def Zr (x y:Int):Int:=if y<x then y else x
def Qm (x y:Int) (p:Int×Int):Int×Int:=if p.2=x∨p.2=y then(p.1,Zr x y)else p
inductive Root (p:Int→Int):Int→Int→Prop where
 |here {x:Int} (h:p x=x):Root p x x
 |up {x c:Int} (h:p x≠x) (k:Root p (p x) c):Root p x c
theorem Root.fix {p:Int→Int} {x c:Int} (h:Root p x c):p c=c:=by
 induction h with
 |here h=>exact h
 |up _ _ ih=>exact ih
theorem Root.Xj {p:Int→Int} {x c d:Int} (h:Root p x c) (k:Root p x d):c=d:=by
 induction h with
 |here h=>cases k with
  |here _=>rfl
  |up h' _=>exact absurd h h'
 |up h _ ih=>cases k with
  |here h'=>exact absurd h' h
  |up _ k'=>exact ih k'
def Zt (p:Int→Int) (x y:Int):Int→Int:=fun z=>if z=x then y else p z
theorem Jb (p:Int→Int) (x y:Int):Zt p x y x=y:=if_pos rfl
theorem Fq {p:Int→Int} {x y z:Int} (h:z≠x):Zt p x y z=p z:=if_neg h
theorem Root.union {p:Int→Int} {M m:Int} (hM:p M=M) (hm:p m=m) (hne:m≠M) {a d:Int} (h:Root p a d):Root (Zt p M m) a (if d=M then m else d):=by
 have hmm:Zt p M m m=m:=by rw[Fq hne,hm]
 induction h with
 |@here a h=>
  by_cases e:a=M
  ·subst e
   rw[if_pos rfl]
   exact .up (by rw[Jb];exact hne) (by rw[Jb];exact .here hmm)
  ·rw[if_neg e]
   exact .here (by rw[Fq e,h])
 |@up a d h k ih=>
  by_cases e:a=M
  ·subst e;exact absurd hM h
  ·exact .up (by rw[Fq e];exact h) (by rw[Fq e];exact ih)
structure H8 (S:List Int) (p r:Int→Int):Prop where
 mem:∀x∈S,p x∈S
 le:∀x∈S,p x≤x
 root:∀x∈S,Root p x (r x)
section
variable {S:List Int} {p r:Int→Int}
theorem H8.Ahs (h:H8 S p r) {x:Int} (hx:x∈S):r x∈S:=by
 have k:=h.root x hx
 generalize r x=c at k
 induction k with
 |here _=>exact hx
 |up _ _ ih=>exact ih (h.mem _ hx)
theorem H8.Aht (h:H8 S p r) {x:Int} (hx:x∈S):p (r x)=r x:=(h.root x hx).fix
theorem H8.step (h:H8 S p r) {x:Int} (hx:x∈S):r (p x)=r x:=by
 have k:=h.root x hx
 by_cases e:p x=x
 ·rw[e]
 ·generalize r x=c at k
  cases k with
  |here h'=>exact absurd h' e
  |up _ k'=>exact(h.root _ (h.mem x hx)).Xj k'
theorem H8.start (S:List Int):H8 S (fun x=>x) (fun x=>x):=⟨fun _ h=>h,fun _ _=>Int.le_refl _,fun _ _=>.here rfl⟩
theorem H8.union (h:H8 S p r) {a b:Int} (ha:a∈S) (hb:b∈S):
 H8 S (Zt p (if r b>r a then r b else r a) (if r b<r a then r b else r a)) (fun c=>(Qm (r a) (r b) (c,r c)).2):=by
 obtain⟨M,hM⟩:∃M,(if r b>r a then r b else r a)=M:=⟨_,rfl⟩
 obtain⟨m,hm⟩:∃m,(if r b<r a then r b else r a)=m:=⟨_,rfl⟩
 rw[hM,hm]
 have fa:=h.Aht ha
 have fb:=h.Aht hb
 have ma:=h.Ahs ha
 have mb:=h.Ahs hb
 have hMr:M=r a∨M=r b:=by rw[← hM];split<;>simp
 have hmr:m=r a∨m=r b:=by rw[← hm];split<;>simp
 have hle:m≤M:=by rw[← hM,←hm];split<;>split<;>omega
 have hMS:M∈S:=by rcases hMr with e|e<;>rw[e]<;>assumption
 have YD:m∈S:=by rcases hmr with e|e<;>rw[e]<;>assumption
 have hMf:p M=M:=by rcases hMr with e|e<;>rw[e]<;>assumption
 have hmf:p m=m:=by rcases hmr with e|e<;>rw[e]<;>assumption
 have hmin:Zr (r a) (r b)=m:=by rw[← hm];rfl
 refine⟨fun y hy=>?_,fun y hy=>?_,fun y hy=>?_⟩
 ·by_cases e:y=M
  ·subst e;rw[Jb];exact YD
  ·rw[Fq e];exact h.mem y hy
 ·by_cases e:y=M
  ·subst e;rw[Jb];exact hle
  ·rw[Fq e];exact h.le y hy
 ·by_cases e:m=M
  ·have hab:r a=r b:=by
        rw[← hM,←hm]at e
        split at e<;>split at e<;>omega
   have hself:Zt p M m=p:=by
        funext z
        by_cases ez:z=M
        ·subst ez;rw[Jb,hMf];exact e
        ·exact Fq ez
   rw[hself]
   have:(Qm (r a) (r b) (y,r y)).2=r y:=by
        unfold Qm
        split
        ·rename_i hc
         show Zr (r a) (r b)=r y
         unfold Zr
         simp only at hc
         split<;>omega
        ·rfl
   rw[this]
   exact h.root y hy
  ·have k:=(h.root y hy).union hMf hmf e
   have:(Qm (r a) (r b) (y,r y)).2=if r y=M then m else r y:=by
        unfold Qm
        rw[hmin]
        simp only
        by_cases c1:r y=r a∨r y=r b
        ·rw[if_pos c1]
         show m=_
         by_cases c2:r y=M
         ·rw[if_pos c2]
         ·rw[if_neg c2]
          rcases c1 with c|c
          ·rw[c]at c2 ⊢
           rw[← hM]at c2
           rw[← hm]
           split at c2<;>split<;>omega
          ·rw[c]at c2 ⊢
           rw[← hM]at c2
           rw[← hm]
           split at c2<;>split<;>omega
        ·rw[if_neg c1]
         have:r y≠M:=fun e=>c1 (by rcases hMr with k|k<;>omega)
         rw[if_neg this]
   rw[this]
   exact k
end
def pv (p:Int×Int):AV:=.agg [.int .i64 p.1,.int .i64 p.2]
theorem Adc (x:Int×Int):(pv x).cells.length=2:=rfl
theorem Vk {l:List (Int×Int)} {a:Int} {i:Nat} (h:∀p∈l.take i,p.1≠a) (hi:i<l.length) (hx:(l[i]).1=a):LU l a=some (l[i]).2:=by
 unfold LU
 have:(l.find? fun p=>decide (p.1=a))=some l[i]:=by
  rw[List.find?_eq_some_iff_getElem]
  refine⟨decide_eq_true hx,i,hi,rfl,fun j hj=>?_⟩
  have:=h (l[j]) (by rw[List.mem_take_iff_getElem];exact⟨j,by omega,rfl⟩)
  simpa using this
 rw[this]
 rfl
theorem Qn {l:List (Int×Int)} {a:Int} (h:∀p∈l,p.1≠a):LU l a=none:=by
 unfold LU
 rw[List.find?_eq_none.2 fun p hp=>by simpa using h p hp]
 rfl
theorem Um {l:List (Int×Int)} {a:Int} {i:Nat} (h:∀p∈l.take i,p.1≠a) (hi:i<l.length) (hx:¬(l[i]).1=a):∀p∈l.take (i+1),p.1≠a:=by
 intro p hp
 rw[List.take_succ_eq_append_getElem hi,List.mem_append,List.mem_singleton]at hp
 rcases hp with hp|rfl
 ·exact h p hp
 ·exact hx
theorem AaO {l:List (Int×Int)} {a:Int} {i:Nat} (h:∀p∈l.take i,p.1≠a) (hi:¬i<l.length):∀p∈l,p.1≠a:=by
 rwa [List.take_of_length_le (by omega)]at h
def Ajv:Option Int→AV
 |some b=>.Du [.int .i64 b,.bool true]
 |none=>.Du [.int .i64 0,.bool false]
theorem AeN {l:List (Int×Int)} {a:Int} {nn:Bool} (hl:l.length<2^62):AQ (Ac tab) 15 [.sl nn (vs pv l),.int .i64 a] (· =Ajv (LU l a)):=by
 refine Ai rfl rfl ?_
 (conv=>whnf);repeat' (first  |(refine kA ?_;conv=>whnf)|(refine Br.mk (fun hc=>?_) fun hc=>?_<;>first|exact hc.elim|conv=>whnf)|(refine kB ?_))
 refine Ah (fun m env s=>∃i:Nat,m=l.length-i∧env=[(0,.sl nn (vs pv l)),(1,.int .i64 a),(6,.int .i64 i)]∧s=⟨[],0⟩∧∀p∈l.take i,p.1≠a) ?_ _ _ _ ⟨0,rfl,rfl,rfl,by simp⟩
 rintro _ _ _ ⟨i,rfl,rfl,rfl,hx⟩
 refine⟨rfl,?_⟩
 by_cases hlt:i<l.length
 ·by_cases he:(l[i]).1=a
  ·have hf:=Vk hx hlt he
   (conv=>whnf);repeat' (first  |(refine kA ?_;conv=>whnf)|(refine Br.mk (fun hc=>?_) fun hc=>?_<;>first|exact hc.elim|conv=>whnf)|(refine kB ?_))
   all_goals first
        |(exfalso;omega)
        |(rw [hf];rfl)
  ·(conv=>whnf);repeat' (first  |(refine kA ?_;conv=>whnf)|(refine Br.mk (fun hc=>?_) fun hc=>?_<;>first|exact hc.elim|conv=>whnf)|(refine kB ?_))
   all_goals first
        |(exfalso;omega)
        |exact again.mk ⟨_,by omega,i+1,rfl,rfl,rfl,Um hx hlt he⟩
 ·have hf:=Qn (AaO hx hlt)
  (conv=>whnf);repeat' (first  |(refine kA ?_;conv=>whnf)|(refine Br.mk (fun hc=>?_) fun hc=>?_<;>first|exact hc.elim|conv=>whnf)|(refine kB ?_))
  all_goals first
   |(exfalso;omega)
   |(rw [hf];rfl)
inductive Aft (l:List (Int×Int)) (a:Int):AV→Prop
 |at(i:Nat) (h:i<l.length) (hf:LU l a=some (l[i]).2):Aft l a (.int .i64 i)
 |no (hf:LU l a=none):Aft l a (.int .i64 (-1))
theorem idx {k:Nat} {l:List (Int×Int)} {a:Int} {nn:Bool} (hl:l.length<2^62) (hk:∀p:Int×Int,AQ (Ac tab) k [pv p,.CO [.int .i64 a]] (· =.bool (decide (p.1=a)))):
 AQ (Ac tab) 48 [.sl nn (vs pv l),.fn k [.CO [.int .i64 a]]] (Aft l a):=by
 refine Ai rfl rfl ?_
 (conv=>whnf);repeat' (first  |(refine kA ?_;conv=>whnf)|(refine Br.mk (fun hc=>?_) fun hc=>?_<;>first|exact hc.elim|conv=>whnf)|(refine kB ?_))
 refine Ah (fun m env s=>∃i:Nat,m=l.length-i∧env=[(0,.sl nn (vs pv l)),(1,.fn k [.CO [.int .i64 a]]),(7,.int .i64 l.length),(8,.int .i64 i)]∧s=⟨[],0⟩∧∀p∈l.take i,p.1≠a) ?_ _ _ _ ⟨0,rfl,rfl,rfl,by simp⟩
 rintro _ _ _ ⟨i,rfl,rfl,rfl,hx⟩
 refine⟨rfl,?_⟩
 by_cases hlt:i<l.length
 ·have hp:=hk (l[i])
  by_cases he:(l[i]).1=a
  ·have hf:=Vk hx hlt he
   rw[decide_eq_true he]at hp
   (conv=>whnf);repeat' (first|(refine Aa hp ?_;rintro _ rfl;conv=>whnf)|(refine kA ?_;conv=>whnf)|(refine Br.mk (fun hc=>?_) fun hc=>?_<;>first|exact hc.elim|conv=>whnf)|(refine kB ?_))
   all_goals first
        |(exfalso;omega)
        |exact .at i hlt hf
  ·rw[decide_eq_false he]at hp
   (conv=>whnf);repeat' (first|(refine Aa hp ?_;rintro _ rfl;conv=>whnf)|(refine kA ?_;conv=>whnf)|(refine Br.mk (fun hc=>?_) fun hc=>?_<;>first|exact hc.elim|conv=>whnf)|(refine kB ?_))
   all_goals first
        |(exfalso;omega)
        |exact again.mk ⟨_,by omega,i+1,rfl,rfl,rfl,Um hx hlt he⟩
 ·have hf:=Qn (AaO hx hlt)
  (conv=>whnf);repeat' (first  |(refine kA ?_;conv=>whnf)|(refine Br.mk (fun hc=>?_) fun hc=>?_<;>first|exact hc.elim|conv=>whnf)|(refine kB ?_))
  all_goals first
   |(exfalso;omega)
   |exact .no hf
structure Half (f:Int×Int→Int×Int) (l W:List (Int×Int)) (i:Nat):Prop where
 len:W.length=l.length
 old:∀j,i≤j→W[j]?=l[j]?
 new:∀j,j<i→W[j]?=(l.map f)[j]?
theorem Half.start (f:Int×Int→Int×Int) (l:List (Int×Int)):Half f l l 0:=⟨rfl,fun _ _=>rfl,fun _ h=>absurd h (by omega)⟩
theorem Half.at {f:Int×Int→Int×Int} {l W:List (Int×Int)} {i:Nat} (h:Half f l W i) (hi:i<l.length):W[i]'(by rw[h.len];exact hi)=l[i]:=by
 have:=h.old i (Nat.le_refl _)
 rw[List.getElem?_eq_getElem hi,List.getElem?_eq_getElem (by rw[h.len];exact hi)]at this
 simpa using this
theorem Half.put {f:Int×Int→Int×Int} {l W:List (Int×Int)} {i:Nat} (h:Half f l W i) (hi:i<l.length):Half f l (W.set i (f (l[i]))) (i+1):=by
 refine⟨by simp[h.len],fun j hj=>?_,fun j hj=>?_⟩
 ·rw[List.getElem?_set_ne (by omega)];exact h.old j (by omega)
 ·by_cases e:j=i
  ·subst e
   rw[List.getElem?_set_self (by rw[h.len];exact hi),List.getElem?_map,List.getElem?_eq_getElem hi];rfl
  ·rw[List.getElem?_set_ne (by omega)];exact h.new j (by omega)
theorem Half.skip {f:Int×Int→Int×Int} {l W:List (Int×Int)} {i:Nat} (h:Half f l W i) (hi:i<l.length) (he:f (l[i])=l[i]):Half f l W (i+1):=by
 refine⟨h.len,fun j hj=>h.old j (by omega),fun j hj=>?_⟩
 by_cases e:j=i
 ·subst e
  rw[h.old j (Nat.le_refl _),List.getElem?_map,List.getElem?_eq_getElem hi,Option.map_some,he]
 ·exact h.new j (by omega)
theorem Half.all {f:Int×Int→Int×Int} {l W:List (Int×Int)} {i:Nat} (h:Half f l W i) (hi:¬i<l.length):W=l.map f:=by
 apply List.ext_getElem?
 intro j
 by_cases hj:j<i
 ·exact h.new j hj
 ·rw[List.getElem?_eq_none (by rw[h.len];omega),List.getElem?_eq_none (by simp;omega)]
theorem AhY {types:List (List UInt8)} {tn:Bool} (hl:types.length<2^63) {e:GE}:AQ (Ac tab) 53 [e.av,.CO [.sl tn (vs .str types)]] (· =.bool (!decide (HT types e))):=by
 have p1:=Vq (l:=types) (e:=e) (nn:=tn) (by omega)
 refine Ai rfl rfl ?_
 (conv=>whnf);repeat' (first|(refine Aa p1 ?_;rintro _ rfl;conv=>whnf)|(refine kA ?_;conv=>whnf)|(refine Br.mk (fun hc=>?_) fun hc=>?_<;>first|exact hc.elim|conv=>whnf)|(refine kB ?_))
 all_goals first|(rw [‹decide (HT types e)=true›];rfl)|(rw [‹decide (HT types e)=false›];rfl)|rfl
inductive AfW (p:GE→Prop) (L:List GE):AV→Prop
 |at(i:Nat) (h:i<L.length) (hf:¬p L[i]) (hb:∀e∈L.take i,p e):AfW p L (.int .i64 i)
 |no (hf:∀e∈L,p e):AfW p L (.int .i64 (-1))
theorem AhZ {types:List (List UInt8)} {tn nn:Bool} (hl:types.length<2^63) {L:List GE} (hL:L.length<2^62):
 AQ (Ac tab) 80 [.sl nn (vs GE.av L),.fn 53 [.CO [.sl tn (vs .str types)]]] (AfW (HT types) L):=by
 refine Ai rfl rfl ?_
 (conv=>whnf);repeat' (first  |(refine kA ?_;conv=>whnf)|(refine Br.mk (fun hc=>?_) fun hc=>?_<;>first|exact hc.elim|conv=>whnf)|(refine kB ?_))
 refine Ah (fun m env s=>∃i:Nat,m=L.length-i∧env=[(0,.sl nn (vs GE.av L)),(1,.fn 53 [.CO [.sl tn (vs .str types)]]),(7,.int .i64 L.length),(8,.int .i64 i)]∧s=⟨[],0⟩∧∀e∈L.take i,HT types e) ?_ _ _ _ ⟨0,rfl,rfl,rfl,by simp⟩
 rintro _ _ _ ⟨i,rfl,rfl,rfl,hx⟩
 refine⟨rfl,?_⟩
 by_cases hlt:i<L.length
 ·have hp:=AhY (types:=types) (tn:=tn) hl (e:=L[i])
  by_cases he:HT types L[i]
  ·rw[decide_eq_true he]at hp
   (conv=>whnf);repeat' (first|(refine Aa hp ?_;rintro _ rfl;conv=>whnf)|(refine kA ?_;conv=>whnf)|(refine Br.mk (fun hc=>?_) fun hc=>?_<;>first|exact hc.elim|conv=>whnf)|(refine kB ?_))
   all_goals first
        |(exfalso;omega)
        |exact again.mk ⟨_,by omega,i+1,rfl,rfl,rfl,fun e h=>by
          rw[List.take_succ_eq_append_getElem hlt,List.mem_append,List.mem_singleton]at h
          rcases h with h|h
          ·exact hx e h
          ·subst h;exact he⟩
  ·rw[decide_eq_false he]at hp
   (conv=>whnf);repeat' (first|(refine Aa hp ?_;rintro _ rfl;conv=>whnf)|(refine kA ?_;conv=>whnf)|(refine Br.mk (fun hc=>?_) fun hc=>?_<;>first|exact hc.elim|conv=>whnf)|(refine kB ?_))
   all_goals first
        |(exfalso;omega)
        |exact .at i hlt he hx
 ·rw[List.take_of_length_le (by omega)]at hx
  (conv=>whnf);repeat' (first  |(refine kA ?_;conv=>whnf)|(refine Br.mk (fun hc=>?_) fun hc=>?_<;>first|exact hc.elim|conv=>whnf)|(refine kB ?_))
  all_goals first
   |(exfalso;omega)
   |exact .no hx
structure Del (p:GE→Prop) [DecidablePred p] (L W:List GE) (i j:Nat):Prop where
 len:W.length=L.length
 le:i≤j
 new:W.take i=(L.take j).filter fun e=>decide (p e)
 old:∀k,j≤k→W[k]?=L[k]?
section
variable {p:GE→Prop} [DecidablePred p] {L W:List GE} {i j:Nat}
theorem Del.start {i:Nat} (h:i<L.length) (hf:¬p L[i]) (hb:∀e∈L.take i,p e):Del p L L i (i+1):=by
 refine⟨rfl,by omega,?_,fun _ _=>rfl⟩
 rw[List.take_succ_eq_append_getElem h,List.filter_append,List.filter_eq_self.2 fun e he=>decide_eq_true (hb e he)]
 simp[hf]
theorem Del.at (h:Del p L W i j) (hj:j<L.length):W[j]'(by rw[h.len];exact hj)=L[j]:=by
 have:=h.old j (Nat.le_refl _)
 rw[List.getElem?_eq_getElem hj,List.getElem?_eq_getElem (by rw[h.len];exact hj)]at this
 simpa using this
theorem Del.keep (h:Del p L W i j) (hj:j<L.length) (hp:p L[j]):Del p L (W.set i L[j]) (i+1) (j+1):=by
 have hi:i<W.length:=by rw[h.len];have:=h.le;omega
 refine⟨by simp[h.len],by have:=h.le;omega,?_,fun k hk=>?_⟩
 ·rw[List.take_succ_eq_append_getElem (by simpa using hi),List.getElem_set_self,List.take_set_of_le (Nat.le_refl _),h.new,List.take_succ_eq_append_getElem hj,List.filter_append]
  simp[hp]
 ·rw[List.getElem?_set_ne (by have:=h.le;omega)];exact h.old k (by omega)
theorem Del.drop (h:Del p L W i j) (hj:j<L.length) (hp:¬p L[j]):Del p L W i (j+1):=by
 refine⟨h.len,by have:=h.le;omega,?_,fun k hk=>h.old k (by omega)⟩
 rw[h.new,List.take_succ_eq_append_getElem hj,List.filter_append]
 simp[hp]
theorem Del.all (h:Del p L W i j) (hj:¬j<L.length):W.take i=L.filter fun e=>decide (p e):=by
 rw[h.new,List.take_of_length_le (by omega)]
end
theorem YP (e:GE):e.av.cells.length=5:=rfl
theorem Aj3 {i n c g:Nat} {AX BA:Obj} {W:List GE} {env:Env} (h:i≤n) (hW:W.length=n) (he:env.get 38=.own 2 g (Int.toNat (i:Int)) (n-Int.toNat (i:Int))):
 Af XB (.clear 5 (.tmp 38)) env ⟨[AX,BA,.arr g 5 true true (vs GE.av W)],c⟩=some (.ok .undef,⟨[AX,BA,.arr g 5 true true (vs GE.av (W.take i))],c⟩):=by
 have e1:(AO.tmp 38).val env=.own 2 g i (n-i):=he
 have hl:(vs GE.av W).length=n:=by rw[lV,hW]
 simp only[Af,e1,nth]
 rw[if_pos ⟨trivial,trivial,by rw[hl];omega⟩]
 have e2:(if n-i=0 then vs GE.av W else(vs GE.av W).take i)=vs GE.av (W.take i):=by
  split
  ·rw[List.take_of_length_le (by omega)]
  ·simp[vs,List.map_take]
 rw[e2]
 rfl
set_option maxHeartbeats 1000000 in
theorem Aj4 {types:List (List UInt8)} {tn:Bool} (hl:types.length<2^63) {L:List GE} (hL:L.length<2^40) {AX BA:Obj} {g c n:Nat} (hn:n=L.length):
 AY (Ac tab) 51 [.own 2 g 0 n,.fn 53 [.CO [.sl tn (vs .str types)]]] ⟨[AX,BA,.arr g 5 true true (vs GE.av L)],c⟩
  fun out s'=>∃c' W,W=(L.filter fun e=>decide (HT types e))∧out=.ok (.own 2 g 0 W.length)∧s'=⟨[AX,BA,.arr g 5 true true (vs GE.av W)],c'⟩:=by
 subst hn
 obtain⟨_,iE,pI⟩:=(AhZ (types:=types) (tn:=tn) (nn:=true) hl (L:=L) (by omega)).Xj
 refine AL rfl rfl ?_
 cases iE with
 |no hf=>
  (conv=>whnf);repeat' (first|(refine Aa pI ?_;rintro _ rfl;conv=>whnf)|(refine kA ?_;conv=>whnf)|(refine Br.mk (fun hc=>?_) fun hc=>?_<;>first|exact hc.elim|conv=>whnf)|(refine kB ?_))
  all_goals first
   |(exfalso;omega)
   |exact⟨_,L,(List.filter_eq_self.2 fun e he=>decide_eq_true (hf e he)).symm,rfl,rfl⟩
 |«at» i hi hf hb=>
  (conv=>whnf);repeat' (first|(refine Aa pI ?_;rintro _ rfl;conv=>whnf)|(refine kA ?_;conv=>whnf)|(refine Br.mk (fun hc=>?_) fun hc=>?_<;>first|exact hc.elim|conv=>whnf)|(refine kB ?_))
  all_goals first|(exfalso;omega)|skip
  refine Ah (fun m env s=>∃(i j c:Nat) (W:List GE),m=L.length-j∧Del (HT types) L W i j∧i≤L.length∧env=[(0,.own 2 g 0 L.length),(1,.fn 53 [.CO [.sl tn (vs .str types)]]),(5,.int .i64 i),(6,.int .i64 j)]∧s=⟨[AX,BA,.arr g 5 true true (vs GE.av W)],c⟩) ?_ _ _ _ ⟨i,i+1,_,L,rfl,.start hi hf hb,by omega,by simp,rfl⟩
  clear hc pI hi hf hb
  rintro _ _ _ ⟨i,j,c,W,rfl,hD,hi,rfl,rfl⟩
  refine⟨rfl,?_⟩
  have hWl:=hD.len
  have hij:=hD.le
  by_cases hlt:j<L.length
  ·have hx:=hD.at hlt
   have n1:nth (vs GE.av W) (Int.toNat (Nat.cast j))=some (L[j]).av:=by rw[← hx];exact nVN (by omega)
   have hp:=AhY (types:=types) (tn:=tn) hl (e:=L[j])
   by_cases he:HT types L[j]
   ·rw[decide_eq_true he]at hp
    have hlw:i<W.length:=by omega
    (conv=>whnf);repeat' (first|(apply Ak;(· exact n1);conv=>whnf)|(refine Aa hp ?_;rintro _ rfl;conv=>whnf)|(refine tV (f:=GE.av) (x:=L[j]) YP i ?_;conv=>whnf)|(refine kA ?_;conv=>whnf)|(refine Br.mk (fun hc=>?_) fun hc=>?_<;>first|exact hc.elim|conv=>whnf)|(refine kB ?_))
    all_goals first
     |(exfalso;omega)
     |exact again.mk ⟨_,by omega,i+1,j+1,_,_,rfl,hD.keep hlt he,by omega,by simp,rfl⟩
   ·rw[decide_eq_false he]at hp
    (conv=>whnf);repeat' (first|(apply Ak;(· exact n1);conv=>whnf)|(refine Aa hp ?_;rintro _ rfl;conv=>whnf)|(refine kA ?_;conv=>whnf)|(refine Br.mk (fun hc=>?_) fun hc=>?_<;>first|exact hc.elim|conv=>whnf)|(refine kB ?_))
    all_goals first
     |(exfalso;omega)
     |exact again.mk ⟨_,by omega,i,j+1,_,_,rfl,hD.drop hlt he,by omega,by simp,rfl⟩
  ·have he:=hD.all hlt
   have hli:(W.take i).length=i:=by rw[List.length_take];omega
   (conv=>whnf);repeat' (first|(apply Aj (Aj3 hi hWl rfl);conv=>whnf)|(refine kA ?_;conv=>whnf)|(refine Br.mk (fun hc=>?_) fun hc=>?_<;>first|exact hc.elim|conv=>whnf)|(refine kB ?_))
   all_goals first
        |(exfalso;omega)
        |exact⟨_,W.take i,he,congrArg (fun n=>AU.ok (.own 2 g 0 n)) hli.symm,rfl⟩
theorem Abn {L:List GE} (hl:L.length<2^40):AY (Ac tab) 52 [.sl true (vs GE.av L)] ⟨[],0⟩ fun out s'=>∃o g,out=.ok (.own o g 0 (vs GE.av L).length)∧nth s'.σ o=some (.arr g 5 true true (vs GE.av L)):=by
 refine AL rfl rfl ?_
 (conv=>whnf);repeat' (first|(refine Aj6 (f:=GE.av) (l:=[]) (l':=L) rfl YP rfl (by simp;omega) ?_;conv=>whnf)|(refine kA ?_;conv=>whnf)|(refine Br.mk (fun hc=>?_) fun hc=>?_<;>first|exact hc.elim|conv=>whnf)|(refine kB ?_))
 all_goals first|exact⟨0,_,congrArg (fun n=>AU.ok (.own 0 _ 0 n)) ((Nat.zero_add _).trans (lV L).symm),rfl⟩
theorem Abp:AY (Ac tab) 52 [.sl false []] ⟨[],0⟩ fun out _=>out=.ok (.sl false []):=by
 refine AL rfl rfl ?_
 (conv=>whnf);repeat' (first  |(refine kA ?_;conv=>whnf)|(refine Br.mk (fun hc=>?_) fun hc=>?_<;>first|exact hc.elim|conv=>whnf)|(refine kB ?_))
 all_goals first|rfl
theorem Ah1 {types:List (List UInt8)} {tn:Bool} (hl:types.length<2^63) {AX BA:Obj} {g c:Nat}:
 AY (Ac tab) 51 [.own 2 g 0 0,.fn 53 [.CO [.sl tn (vs .str types)]]] ⟨[AX,BA,.arr g 1 false true []],c⟩
  fun out s'=>∃c',out=.ok (.own 2 g 0 0)∧s'=⟨[AX,BA,.arr g 1 false true []],c'⟩:=by
 obtain⟨_,iE,pI⟩:=(AhZ (types:=types) (tn:=tn) (nn:=false) hl (L:=[]) (by simp)).Xj
 cases iE with
 |«at» i hi hf hb=>exact absurd hi (by simp)
 |no hf=>
 refine AL rfl rfl ?_
 (conv=>whnf);repeat' (first|(refine Aa pI ?_;rintro _ rfl;conv=>whnf)|(refine kA ?_;conv=>whnf)|(refine Br.mk (fun hc=>?_) fun hc=>?_<;>first|exact hc.elim|conv=>whnf)|(refine kB ?_))
 all_goals first
  |(exfalso;omega)
  |exact⟨_,rfl,rfl⟩
def Jo (types:List (List UInt8)) (g:GG):List GE:=g.edges.filter fun e=>decide (HT types e)
theorem AfM {types:List (List UInt8)} {tn:Bool} (hl:types.length<2^63) {g:GG} (hg:g.ok) (hE:g.edges.length<2^39):AQ (Ac tab) 27 [g.av,.sl tn (vs .str types)] (fun v=>∃b,v=.sl b (vs GE.av (Jo types g))):=by
 unfold Jo
 cases hen:g.en with
 |false=>
  have h0:g.edges=[]:=hg.2.2.2.2.1 hen
  have hav:g.av=.agg [.sl g.nn (vs GN.av g.nodes),.sl false [],.int .i64 g.Gf,.int .i64 g.Ih]:=by unfold GG.av;rw[hen,h0];rfl
  rw[hav,h0]
  refine Ai rfl rfl ?_
  (conv=>whnf);repeat' (first|(refine QI rfl Abp ?_;conv=>whnf)|(refine (Ah1 hl).mono ?_;rintro _ _ ⟨c',rfl,rfl⟩;conv=>whnf)|(refine kA ?_;conv=>whnf)|(refine Br.mk (fun hc=>?_) fun hc=>?_<;>first|exact hc.elim|conv=>whnf)|(refine kB ?_))
  all_goals first|(exfalso;omega)|exact⟨false,rfl⟩
 |true=>
  have hav:g.av=.agg [.sl g.nn (vs GN.av g.nodes),.sl true (vs GE.av g.edges),.int .i64 g.Gf,.int .i64 g.Ih]:=by unfold GG.av;rw[hen]
  rw[hav]
  have pc:=Abn (L:=g.edges) (by omega)
  refine Ai rfl rfl ?_
  (conv=>whnf);repeat' (first|(refine AfX rfl pc ?_;conv=>whnf)|(refine (Aj4 hl (L:=g.edges) (by omega) (lV _)).mono ?_;rintro _ _ ⟨c',W,hW,rfl,rfl⟩;conv=>whnf)|(refine kA ?_;conv=>whnf)|(refine Br.mk (fun hc=>?_) fun hc=>?_<;>first|exact hc.elim|conv=>whnf)|(refine kB ?_))
  all_goals first|(exfalso;omega)|exact⟨true,by rw[hW]⟩
theorem AjH {f:Int×Int→AV} {l:List (Int×Int)} {n:Nat} (h:n=l.length):sub (vs f l) 0 n=vs f l:=by subst h;exact uV
def allNames (l:List (List UInt8)):Prop:=∀s∈l,isName s
noncomputable instance (l:List (List UInt8)):Decidable (allNames l):=Classical.propDecidable _
def rises (l:List (List UInt8)):Prop:=∀j (h:j+1<l.length),(Op.bytesLess l[j+1] l[j]||l[j+1]==l[j])=false
noncomputable instance (l:List (List UInt8)):Decidable (rises l):=Classical.propDecidable _
theorem unn {s:List UInt8} (hl:s.length<2^63):AQ (Ac tab) 61 [.str s] (· =.bool (decide (¬ isName s))):=by
 refine Ai rfl rfl ?_
 (conv=>whnf);repeat' (first|(refine kA ?_;conv=>whnf)|(refine Br.mk (fun hc=>?_) fun hc=>?_<;>first|exact hc.elim|conv=>whnf)|(refine Gu (name1 hl) (fun hr=>?_) (fun hr=>?_)<;>conv=>whnf)|(refine kB ?_))
 ·exact EI (fun h=>h hr)
 ·exact GK hr
theorem Aio {l:List (List UInt8)} {nn:Bool} (hl:l.length<2^63) (hs:∀s∈l,s.length<2^63):AQ (Ac tab) 88 [.sl nn (vs .str l),.fn 61 []] (fun v=>∃z,v=.int .i64 z∧(0≤z↔¬allNames l)):=by
 refine Ai rfl rfl ?_
 (conv=>whnf);repeat' (first|(refine kA ?_;conv=>whnf)|(refine Br.mk (fun hc=>?_) fun hc=>?_<;>first|exact hc.elim|conv=>whnf)  |(refine kB ?_))
 refine Ah (fun m env s=>∃i:Nat,m=l.length-i∧env=[(0,.sl nn (vs .str l)),(1,.fn 61 []),(7,.int .i64 l.length),(8,.int .i64 i)]∧s=⟨[],0⟩∧∀s∈l.take i,isName s) ?_ _ _ _ ⟨0,rfl,by simp,rfl,by simp⟩
 rintro _ _ _ ⟨i,rfl,rfl,rfl,hx⟩
 refine⟨rfl,?_⟩
 (conv=>whnf);repeat' (first|(refine kA ?_;conv=>whnf)|(refine Br.mk (fun hc=>?_) fun hc=>?_<;>first|exact hc.elim|conv=>whnf)|(refine Gu (unn (hs _ (List.getElem_mem (by omega)))) (fun hr=>?_) (fun hr=>?_)<;>conv=>whnf)|(refine kB ?_))
 ·exact⟨_,rfl,fun _ h=>hr (h _ (List.getElem_mem _)),fun _=>by omega⟩
 ·exact again.mk ⟨_,by omega,i+1,rfl,rfl,rfl,CX (by omega) hx (Decidable.of_not_not hr)⟩
 ·rw[EJ hc]at hx;exact⟨_,rfl,fun h=>absurd h (by omega),fun h=>absurd hx h⟩
theorem AbP {l:List (List UInt8)} {nn:Bool} (hl:l.length<2^63) (hs:∀s∈l,s.length<2^63):AQ (Ac tab) 60 [.sl nn (vs .str l),.fn 61 []] (· =.bool (decide (¬ allNames l))):=by
 refine Ai rfl rfl ?_
 (conv=>whnf);repeat' (first|(refine kA ?_;conv=>whnf)|(refine Br.mk (fun hc=>?_) fun hc=>?_<;>first|exact hc.elim|conv=>whnf)  |(refine kB ?_))
 refine Aa (Aio hl hs) ?_
 rintro _ ⟨z,rfl,hz⟩
 (conv=>whnf);repeat' (first|(refine kA ?_;conv=>whnf)|(refine Br.mk (fun hc=>?_) fun hc=>?_<;>first|exact hc.elim|conv=>whnf)  |(refine kB ?_))
 ·exact GK (hz.1 hc)
 ·exact EI (mt hz.2 hc)
theorem AbQ {l:List (List UInt8)} {nn:Bool} (hl:l.length<2^63):AQ (Ac tab) 62 [.sl nn (vs .str l)] (· =.bool (decide (rises l))):=by
 refine Ai rfl rfl ?_
 (conv=>whnf);repeat' (first|(refine kA ?_;conv=>whnf)|(refine Br.mk (fun hc=>?_) fun hc=>?_<;>first|exact hc.elim|conv=>whnf)  |(refine kB ?_))
 refine Ah (fun m env s=>∃i:Nat,m=l.length-i∧env=[(0,.sl nn (vs .str l)),(3,.int .i64 (i+1:Nat))]∧s=⟨[],0⟩∧∀j (h:j+1<l.length),j<i→(Op.bytesLess l[j+1] l[j]||l[j+1]==l[j])=false) ?_ _ _ _ ⟨0,rfl,rfl,rfl,fun j _ h=>absurd h (by omega)⟩
 rintro _ _ _ ⟨i,rfl,rfl,rfl,hx⟩
 refine⟨rfl,?_⟩
 (conv=>whnf);repeat' (first|(refine kA ?_;conv=>whnf)|(refine Br.mk (fun hc=>?_) fun hc=>?_<;>first|exact hc.elim|conv=>whnf)|(apply Ak;(· exact nVz i (by omega) (by omega));conv=>whnf)|(refine kB ?_))
 ·exact EI fun h=>by simp only[show (((i+1:Nat):Int)-1).toNat=i by omega]at hc;rw[h i (by omega)]at hc;cases hc
 ·simp only[show (((i+1:Nat):Int)-1).toNat=i by omega]at hc
  exact again.mk ⟨_,by omega,i+1,rfl,rfl,rfl,fun j h hj=>by
   by_cases e:j=i
   ·subst e;simpa using hc
   ·exact hx j h (by omega)⟩
 ·exact GK fun j h=>hx j h (by omega)
end AI
end Go.Proofs.YtjjhejbffgaabaaGreatDoor
