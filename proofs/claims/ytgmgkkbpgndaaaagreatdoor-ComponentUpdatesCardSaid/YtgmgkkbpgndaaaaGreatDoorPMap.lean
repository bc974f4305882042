/- Changes as data; the ids that changes name: plain. Update of components, both; the law ComponentUpdates about the evaluator. -/
import Derived.Test.YtgmgkkbpgndaaaaGreatDoorPMah
import Derived.Test.YtgmgkkbpgndaaaaGreatDoorPMao
set_option linter.unusedVariables false
set_option maxRecDepth 4000
namespace Go.Proofs.YtgmgkkbpgndaaaaGreatDoor
namespace AI
theorem WG:Tryz.prog.cellsOf 36=10:=by kernel_rfl
theorem FM {l:List AV} {n:Nat} (h:l.length=n+1):∃a r,l=a::r∧r.length=n:=by
 cases l with
 |nil=>simp at h
 |cons a r=>exact⟨a,r,rfl,by simpa using h⟩
theorem WH {d:Nat} {a:AV} (h:like Tryz.prog d 36 a):∃c:GC,a=c.av∧c.ok:=by
 obtain⟨cs,rfl,h0⟩:=D9 Tryz.underlying36 h
 obtain⟨d',rfl,g1,g2⟩:=DL Tryz.underlying36 h0
 rw[WG]at g1
 obtain⟨a1,r1,rfl,q1⟩:=FM g1
 obtain⟨a2,r2,rfl,q2⟩:=FM q1
 obtain⟨a3,r3,rfl,q3⟩:=FM q2
 obtain⟨a4,r4,rfl,q4⟩:=FM q3
 obtain⟨b1,b2,b3,b4,b5,b6,rfl⟩:=Ahh q4
 clear g1 q1 q2 q3 q4
 simp only[List.forall_mem_cons]at g2
 obtain⟨f1,f2,f3,f4,f5,f6,_⟩:=g2
 simp only[Tz,Nq,UH,List.drop_zero,List.drop_succ_cons,List.take_succ_cons,List.take_zero]at f1 f2 f3 f4 f5 f6
 obtain⟨k,e1,h1⟩:=Ei f1
 obtain⟨i,e2,h2⟩:=Ei f2
 obtain⟨fr,e3,h3⟩:=Ei f3
 obtain⟨to,e4,h4⟩:=Ei f4
 obtain⟨s,e5,h5⟩:=Qe f5
 obtain⟨v,e6,h6⟩:=Kz f6
 cases e1;cases e2;cases e3;cases e4;cases e5;cases e6
 exact⟨⟨k,i,fr,to,s,v⟩,rfl,h1,h2,h3,h4,h5,h6⟩
theorem Aga (p q:Int×Int):bin .neq (.flat [.int,.int]) (.agg (List.take 2 (pv p).cells)) (.agg (List.take 2 (pv q).cells))=some (.bool (!decide (p=q))):=by
 obtain⟨p1,p2⟩:=p
 obtain⟨q1,q2⟩:=q
 by_cases h1:p1=q1
 ·by_cases h2:p2=q2
  ·simp[bin,QG,Gy,CV,pv,AV.cells,h1,h2]
  ·have e2:(p2==q2)=false:=by simpa using h2
   simp[bin,QG,Gy,CV,pv,AV.cells,h1,h2,e2]
 ·have e1:(p1==q1)=false:=by simpa using h1
  simp[bin,QG,Gy,CV,pv,AV.cells,h1,e1]
theorem AjF {l m:List (Int×Int)} {b1 b2:Bool} (hl:l.length<2^40) (hm:m.length<2^40):Af (Ad tab) 26 [.sl b1 (vs pv l),.sl b2 (vs pv m)] (· =.bool (decide (l=m))):=by
 by_cases hlen:l.length=m.length
 ·refine Ac rfl rfl ?_
  (conv=>whnf);repeat' (first  |(refine kA ?_;conv=>whnf)|(refine Br.mk (fun hc=>?_) fun hc=>?_<;>first|exact hc.elim|conv=>whnf)|(refine kB ?_))
  all_goals first|(exfalso;omega)|skip
  refine Ak (fun z env s=>∃(i:Nat),z=l.length-i∧l.take i=m.take i∧env=[(0,.sl b1 (vs pv l)),(1,.sl b2 (vs pv m)),(12,.int .i64 l.length),(13,.int .i64 i)]∧s=⟨[],0⟩) ?_ _ _ _ ⟨0,rfl,rfl,rfl,rfl⟩
  rintro _ _ _ ⟨i,rfl,hx,rfl,rfl⟩
  refine⟨rfl,?_⟩
  by_cases hlt:i<l.length
  ·have hb:=Aga l[i] (m[i]'(by omega))
   by_cases he:l[i]=m[i]'(by omega)
   ·rw[decide_eq_true he]at hb
    (conv=>whnf);repeat' (first|(apply Au hb;conv=>whnf)|(refine kA ?_;conv=>whnf)|(refine Br.mk (fun hc=>?_) fun hc=>?_<;>first|exact hc.elim|conv=>whnf)|(refine kB ?_))
    all_goals first
     |(exfalso;omega)
     |exact again.mk ⟨_,by omega,i+1,rfl,by rw[List.take_succ_eq_append_getElem hlt,List.take_succ_eq_append_getElem (by omega),hx,he],rfl,rfl⟩
   ·rw[decide_eq_false he]at hb
    have hno:¬l=m:=fun e=>he (by subst e;rfl)
    (conv=>whnf);repeat' (first|(apply Au hb;conv=>whnf)|(refine kA ?_;conv=>whnf)|(refine Br.mk (fun hc=>?_) fun hc=>?_<;>first|exact hc.elim|conv=>whnf)|(refine kB ?_))
    all_goals first
     |(exfalso;omega)
     |exact AB hno
  ·have hyes:l=m:=by rw[List.take_of_length_le (by omega),List.take_of_length_le (by omega)]at hx;exact hx
   (conv=>whnf);repeat' (first  |(refine kA ?_;conv=>whnf)|(refine Br.mk (fun hc=>?_) fun hc=>?_<;>first|exact hc.elim|conv=>whnf)|(refine kB ?_))
   all_goals first
        |(exfalso;omega)
        |exact Bv hyes
 ·have hno:¬l=m:=fun e=>hlen (by rw[e])
  refine Ac rfl rfl ?_
  (conv=>whnf);repeat' (first  |(refine kA ?_;conv=>whnf)|(refine Br.mk (fun hc=>?_) fun hc=>?_<;>first|exact hc.elim|conv=>whnf)|(refine kB ?_))
  all_goals first|(exfalso;omega)|exact AB hno
noncomputable def wkG (types:List (List UInt8)) (g:GG):List (Int×Int):=if Ba g=0 then FH types g else[]
theorem Zu (types:List (List UInt8)) (g:GG):(wkG types g).length≤g.nodes.length:=by
 unfold wkG
 split
 ·rw[OG];omega
 ·simp
def Yn (l:List (Int×Int)) (g:GG) (types:List (List UInt8)) (c:GC) (v:AV):Prop:=
 (l≠wkG types g∧v=.Cc [.sl false [],.int .i64 19])∨(l=wkG types g∧(BK g c).2≠0∧v=.Cc [.sl false [],.int .i64 (BK g c).2])∨
 (l=wkG types g∧(BK g c).2=0∧∃b,v=.Cc [.sl b (vs pv (FH types (BK g c).1)),.int .i64 0])
set_option maxHeartbeats 2000000 in
theorem AjG {l:List (Int×Int)} {nl:Bool} (hll:l.length<2^39) (hnl:nl=false→l=[]) {types:List (List UInt8)} {tn:Bool} (hl:types.length<2^63) {g:GG} (hg:g.ok) (hN:g.nodes.length<2000) (hE:g.edges.length<2000) {c:GC} (hc:c.ok):
 Af (Ad tab) 12 [.sl nl (vs pv l),g.av,.sl tn (vs .str types),c.av] (Yn l g types c):=by
 obtain⟨_,⟨b1,rfl,_⟩,p1⟩:=(Zh (types:=types) (tn:=tn) hl hg (by omega) (by omega)).He
 change Af _ _ _ (· =.sl b1 (vs pv (wkG types g)))at p1
 have hwl:=Zu types g
 have p2:=AjF (l:=l) (m:=wkG types g) (b1:=nl) (b2:=b1) (by omega) (by omega)
 have p3:=AbI hg hc
 unfold Yn
 by_cases h1:l=wkG types g
 case neg=>
  rw[decide_eq_false h1]at p2
  obtain⟨op,z,fr,to,nm,v⟩:=c
  refine Ac rfl rfl ?_
  (conv=>whnf);repeat' (first|((first|refine Aa p1 ?_|refine Aa p2 ?_);rintro _ rfl;conv=>whnf)|(refine kA ?_;conv=>whnf)|(refine Br.mk (fun hc=>?_) fun hc=>?_<;>first|exact hc.elim|conv=>whnf)|(refine kB ?_))
  all_goals first|exact .inl ⟨h1,rfl⟩
 rw[decide_eq_true h1]at p2
 obtain⟨h,hh⟩:∃h,(BK g c).1=h:=⟨_,rfl⟩
 obtain⟨e,he⟩:∃e,(BK g c).2=e:=⟨_,rfl⟩
 rw[hh,he]at p3
 rw[hh,he]
 by_cases h0:e=0
 case neg=>
  clear he hh
  obtain⟨op,z,fr,to,nm,v⟩:=c
  refine Ac rfl rfl ?_
  (conv=>whnf);repeat' (first|((first|refine Aa p1 ?_|refine Aa p2 ?_|refine Aa p3 ?_);rintro _ rfl;conv=>whnf)|(refine kA ?_;conv=>whnf)|(refine Br.mk (fun hc=>?_) fun hc=>?_<;>first|exact hc.elim|conv=>whnf)|(refine kB ?_))
  all_goals first|exact .inr (.inl ⟨h1,h0,rfl⟩)|(exfalso;omega)
 subst h0
 have hok:h.ok:=by rw[← hh];exact Ue hg hc he
 have hck:=(LP he).1
 have Yo:Ba h=0:=by rw[← hh];exact Ib he
 have hfit:=(ER Yo).1
 unfold Ea at hfit
 obtain⟨_,⟨b2,rfl,_⟩,p4⟩:=(Zh (types:=types) (tn:=tn) hl hok (by omega) (by omega)).He
 rw[if_pos Yo]at p4
 have p5:=WB (l:=types) (e:=⟨0,0,0,c.name,false,[]⟩) (nn:=tn) hl
 obtain⟨_,⟨b3,rfl⟩,p6⟩:=(Ae7 (l:=l) (a:=c.fr) (b:=c.to) (nn:=nl) (by omega) hnl).He
 by_cases h6:c.op=6
 ·by_cases ht:HT types ⟨0,0,0,c.name,false,[]⟩
  ·have hw:=WC (types:=types) (c:=c) h6 he ht
   rw[hh]at hw
   have hw2:Gn l c.fr c.to=FH types h:=by
        rw[hw,h1]
        unfold wkG
        rw[if_pos hck]
   rw[decide_eq_true ht]at p5
   rw[hw2]at p6
   clear he hh hw hw2
   obtain⟨op,z,fr,to,nm,v⟩:=c
   subst h6
   refine Ac rfl rfl ?_
   (conv=>whnf);repeat' (first|((first|refine Aa p1 ?_|refine Aa p2 ?_|refine Aa p3 ?_|refine Aa p5 ?_|refine Aa p6 ?_);rintro _ rfl;conv=>whnf)|(refine kA ?_;conv=>whnf)|(refine Br.mk (fun hc=>?_) fun hc=>?_<;>first|exact hc.elim|conv=>whnf)|(refine kB ?_))
   all_goals first|exact .inr (.inr ⟨h1,rfl,b3,rfl⟩)|(exfalso;omega)
  ·rw[decide_eq_false ht]at p5
   clear he hh
   obtain⟨op,z,fr,to,nm,v⟩:=c
   subst h6
   refine Ac rfl rfl ?_
   (conv=>whnf);repeat' (first|((first|refine Aa p1 ?_|refine Aa p2 ?_|refine Aa p3 ?_|refine Aa p5 ?_|refine Aa p4 ?_);rintro _ rfl;conv=>whnf)|(refine kA ?_;conv=>whnf)|(refine Br.mk (fun hc=>?_) fun hc=>?_<;>first|exact hc.elim|conv=>whnf)|(refine kB ?_))
   all_goals first|exact .inr (.inr ⟨h1,rfl,b2,rfl⟩)|(exfalso;omega)
 ·clear he hh
  obtain⟨op,z,fr,to,nm,v⟩:=c
  have h6':¬op=6:=h6
  refine Ac rfl rfl ?_
  (conv=>whnf);repeat' (first|((first|refine Aa p1 ?_|refine Aa p2 ?_|refine Aa p3 ?_|refine Aa p4 ?_);rintro _ rfl;conv=>whnf)|(refine kA ?_;conv=>whnf)|(refine Br.mk (fun hc=>?_) fun hc=>?_<;>first|exact hc.elim|conv=>whnf)|(refine kB ?_))
  all_goals first|exact .inr (.inr ⟨h1,rfl,b2,rfl⟩)|(exfalso;omega)
set_option maxHeartbeats 2000000 in
theorem AjH {l:List (Int×Int)} {nl:Bool} (hll:l.length<2^39) {types:List (List UInt8)} {tn:Bool} (hl:types.length<2^63) {g:GG} (hg:g.ok) (hN:g.nodes.length<2000) (hE:g.edges.length<2000) {c:GC} (hc:c.ok):
 Af (Ad tab) 13 [.sl nl (vs pv l),g.av,.sl tn (vs .str types),c.av] (Yn l g types c):=by
 obtain⟨_,⟨b1,rfl⟩,p1⟩:=(Afe (types:=types) (tn:=tn) hl hg (by omega) (by omega)).He
 change Af _ _ _ (· =.sl b1 (vs pv (wkG types g)))at p1
 have hwl:=Zu types g
 have p2:=Abk (l:=l) (m:=wkG types g) (b1:=nl) (b2:=b1) (by omega) (by omega)
 obtain⟨_,⟨h,rfl,hnr,hok⟩,p3⟩:=(Agb hg hc (by omega) (by omega)).He
 unfold Yn
 by_cases h1:l=wkG types g
 case neg=>
  rw[decide_eq_false h1]at p2
  obtain⟨op,z,fr,to,nm,v⟩:=c
  refine Ac rfl rfl ?_
  (conv=>whnf);repeat' (first|((first|refine Aa p1 ?_|refine Aa p2 ?_);rintro _ rfl;conv=>whnf)|(refine kA ?_;conv=>whnf)|(refine Br.mk (fun hc=>?_) fun hc=>?_<;>first|exact hc.elim|conv=>whnf)|(refine kB ?_))
  all_goals first|exact .inl ⟨h1,rfl⟩
 rw[decide_eq_true h1]at p2
 have hwn:=Ab0 (types:=types) hnr
 have hcn:=Yp hnr
 obtain⟨k,hk⟩:∃k,(BK g c).1=k:=⟨_,rfl⟩
 obtain⟨e,he⟩:∃e,(BK g c).2=e:=⟨_,rfl⟩
 rw[he]at p3
 rw[he,←hwn]
 by_cases h0:e=0
 case neg=>
  clear he hk hnr hwn hcn
  obtain⟨op,z,fr,to,nm,v⟩:=c
  refine Ac rfl rfl ?_
  (conv=>whnf);repeat' (first|((first|refine Aa p1 ?_|refine Aa p2 ?_|refine Aa p3 ?_);rintro _ rfl;conv=>whnf)|(refine kA ?_;conv=>whnf)|(refine Br.mk (fun hc=>?_) fun hc=>?_<;>first|exact hc.elim|conv=>whnf)|(refine kB ?_))
  all_goals first|exact .inr (.inl ⟨h1,h0,rfl⟩)|(exfalso;omega)
 subst h0
 have Yo:Ba h=0:=by rw[hcn];exact Ib he
 have hfit:=(ER Yo).1
 unfold Ea at hfit
 obtain⟨_,⟨b2,rfl⟩,p4⟩:=(Afe (types:=types) (tn:=tn) hl hok (by omega) (by omega)).He
 rw[if_pos Yo]at p4
 clear he hk hnr hwn hcn
 obtain⟨op,z,fr,to,nm,v⟩:=c
 refine Ac rfl rfl ?_
 (conv=>whnf);repeat' (first|((first|refine Aa p1 ?_|refine Aa p2 ?_|refine Aa p3 ?_|refine Aa p4 ?_);rintro _ rfl;conv=>whnf)|(refine kA ?_;conv=>whnf)|(refine Br.mk (fun hc=>?_) fun hc=>?_<;>first|exact hc.elim|conv=>whnf)|(refine kB ?_))
 all_goals first|exact .inr (.inr ⟨h1,rfl,b2,rfl⟩)|(exfalso;omega)
structure QA where
 nl:Bool
 l:List (Int×Int)
 g:GG
 tn:Bool
 types:List (List UInt8)
 c:GC
def QA.av (q:QA):AV:=.agg [.sl q.nl (vs pv q.l),.sl q.g.nn (vs GN.av q.g.nodes),.sl q.g.en (vs GE.av q.g.edges),.int .i64 q.g.Bl,.int .i64 q.g.Bq,.sl q.tn (vs .str q.types),.int .i64 q.c.op,.int .i64 q.c.id,.int .i64 q.c.fr,.int .i64 q.c.to,.str q.c.name,.int .i64 q.c.v.k,.int .i64 q.c.v.n,.int .i64 q.c.v.d,.str q.c.v.s,.sl q.c.v.nn q.c.v.l]
theorem AhO:Tryz.prog.cellsOf 38=16:=by kernel_rfl
theorem Ad3:Tryz.prog.cellsOf 22=1:=by kernel_rfl
theorem WE {P:Program} {d:Nat} {t:TypeId} {fs:Array Field} {cs:List AV} (hu:P.underlying t=some (.struct fs)) (h:C9 P d t cs):like P d t (.agg cs):=⟨cs,h,by simp only[pack,hu]⟩
theorem Uf {P:Program} {d:Nat} {t e:TypeId} {a:AV} (hu:P.underlying t=some (.slice e)) (h:C9 P d t [a]):like P d t a:=⟨[a],h,by simp[pack,hu]⟩
theorem Aaw {a:AV} (h:Like Tryz.prog 38 a):∃q:QA,a=q.av∧Ln q.l∧(q.nl=false→q.l=[])∧q.g.ok∧q.types.length<2^63∧q.c.ok:=by
 obtain⟨d,h⟩:=h
 obtain⟨cs,rfl,h0⟩:=D9 Tryz.underlying38 h
 obtain⟨d',rfl,g1,g2⟩:=DL Tryz.underlying38 h0
 rw[AhO]at g1
 obtain⟨a1,r1,rfl,q1⟩:=FM g1
 obtain⟨a2,r2,rfl,q2⟩:=FM q1
 obtain⟨a3,r3,rfl,q3⟩:=FM q2
 obtain⟨a4,r4,rfl,q4⟩:=FM q3
 obtain⟨a5,r5,rfl,q5⟩:=FM q4
 obtain⟨a6,r6,rfl,q6⟩:=FM q5
 clear g1 q1 q2 q3 q4 q5
 simp only[List.forall_mem_cons]at g2
 obtain⟨f1,f2,f3,f4,_⟩:=g2
 simp only[Ad3,Y6,TA,WG,List.drop_zero,List.drop_succ_cons,List.take_succ_cons,List.take_zero]at f1 f2 f3 f4
 obtain⟨nl,l,e1,h1,h2,_⟩:=Yq ⟨d',Uf Tryz.underlying22 f1⟩
 obtain⟨g,e2,h3⟩:=QD ⟨d',WE Tryz.underlying30 f2⟩
 obtain⟨tn,types,e3,h4⟩:=Yr ⟨d',Uf Tryz.underlying31 f3⟩
 rw[List.take_of_length_le (by omega)]at f4
 obtain⟨c,e4,h5⟩:=WH (WE Tryz.underlying36 f4)
 subst e1 e3
 unfold GG.av at e2
 unfold GC.av at e4
 simp only[AV.agg.injEq,List.cons.injEq,and_true]at e2 e4
 obtain⟨rfl,rfl,rfl,rfl⟩:=e2
 subst e4
 exact⟨⟨nl,l,g,tn,types,c⟩,rfl,h1,h2,h3,h4,h5⟩
theorem Yn.both {l:List (Int×Int)} {g:GG} {types:List (List UInt8)} {c:GC} {v w:AV} (h:Yn l g types c v) (k:Yn l g types c w):
 ∃b1 b2 L e,v=.Cc [.sl b1 (vs pv L),.int .i64 e]∧w=.Cc [.sl b2 (vs pv L),.int .i64 e]∧L.length≤4000:=by
 rcases h with⟨h1,rfl⟩|⟨h1,h0,rfl⟩|⟨h1,h0,b,rfl⟩
 ·rcases k with⟨k1,rfl⟩|⟨k1,k0,rfl⟩|⟨k1,k0,b',rfl⟩
  ·exact⟨false,false,[],19,rfl,rfl,by simp⟩
  ·exact absurd k1 h1
  ·exact absurd k1 h1
 ·rcases k with⟨k1,rfl⟩|⟨k1,k0,rfl⟩|⟨k1,k0,b',rfl⟩
  ·exact absurd h1 k1
  ·exact⟨false,false,[],_,rfl,rfl,by simp⟩
  ·exact absurd k0 h0
 ·rcases k with⟨k1,rfl⟩|⟨k1,k0,rfl⟩|⟨k1,k0,b',rfl⟩
  ·exact absurd h1 k1
  ·exact absurd h0 k0
  ·have hfit:=(ER (Ib h0)).1
   unfold Ea at hfit
   exact⟨b,b',_,0,rfl,rfl,by rw[OG];omega⟩
set_option maxHeartbeats 2000000 in
theorem VK:∀xs,likes Tryz.prog [38] xs→AQ (Ad tab) 4 xs ⟨[],0⟩ fun out _=>out=.ok (.bool true):=by
 intro xs h
 match xs,h with
 |[x],h=>
  obtain⟨h1,_⟩:=h
  obtain⟨q,rfl,hL,hnl,hg,hl,hc⟩:=Aaw h1
  unfold Ln at hL
  obtain⟨_,⟨bs,rfl,hs⟩,p0⟩:=(Ab1 hg).He
  refine Am rfl rfl ?_
  cases bs with
  |false=>
   (conv=>whnf);repeat' (first|((first|refine Aa OH ?_|refine Aa p0 ?_);rintro _ rfl;conv=>whnf)|(refine kA ?_;conv=>whnf)|(refine Br.mk (fun hc=>?_) fun hc=>?_<;>first|exact hc.elim|conv=>whnf)|(refine kB ?_))
   all_goals first|rfl
  |true=>
   obtain⟨hN,hE⟩:=hs rfl
   by_cases AlF:q.l.length>100
   ·(conv=>whnf);repeat' (first|((first|refine Aa OH ?_|refine Aa p0 ?_);rintro _ rfl;conv=>whnf)|(refine kA ?_;conv=>whnf)|(refine Br.mk (fun hc=>?_) fun hc=>?_<;>first|exact hc.elim|conv=>whnf)|(refine kB ?_))
    all_goals first|rfl|(exfalso;omega)
   ·obtain⟨_,v1,p1⟩:=(AjG (l:=q.l) (nl:=q.nl) (by omega) hnl (types:=q.types) (tn:=q.tn) hl hg (by omega) (by omega) hc).He
    obtain⟨_,v2,p2⟩:=(AjH (l:=q.l) (nl:=q.nl) (by omega) (types:=q.types) (tn:=q.tn) hl hg (by omega) (by omega) hc).He
    obtain⟨b1,b2,M,e,rfl,rfl,hM⟩:=v1.both v2
    have p3:=Abk (l:=M) (m:=M) (b1:=b1) (b2:=b2) (by omega) (by omega)
    rw[decide_eq_true rfl]at p3
    clear v1 v2
    (conv=>whnf);repeat' (first|((first|refine Aa OH ?_|refine Aa p0 ?_|refine Aa p1 ?_|refine Aa p2 ?_|refine Aa p3 ?_);rintro _ rfl;conv=>whnf)|(refine kA ?_;conv=>whnf)|(refine Br.mk (fun hc=>?_) fun hc=>?_<;>first|exact hc.elim|conv=>whnf)|(refine kB ?_))
    all_goals first|rfl|(exfalso;omega)
end AI
end Go.Proofs.YtgmgkkbpgndaaaaGreatDoor
