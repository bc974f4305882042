/- The law CentralityTriangles, about the evaluator. -/
import Derived.Test.YtchcadfjbkkgmaaGreatDoorCMau
set_option linter.unusedVariables false
set_option maxRecDepth 4000
namespace Go.Proofs.YtchcadfjbkkgmaaGreatDoor
namespace AI
theorem AkQ:Tryz.prog.cellsOf 106=2:=by kernel_rfl
theorem AdH {d:Nat} {a:AV} (h:like Tryz.prog d 106 a):∃p,a=pv p∧(I64 p.1∧I64 p.2):=by
 obtain⟨cs,rfl,h0⟩:=EF Tryz.underlying106 h
 obtain⟨d',rfl,g1,g2⟩:=Ee Tryz.underlying106 h0
 rw[AkQ]at g1
 obtain⟨a,r1,rfl,q1⟩:=Jy g1
 obtain⟨b,r2,rfl,q2⟩:=Jy q1
 obtain rfl:=List.eq_nil_of_length_eq_zero q2
 clear g1 q1 q2
 simp only[List.forall_mem_cons]at g2
 obtain⟨f1,f2,_⟩:=g2
 simp only[Wp,List.drop_zero,List.drop_succ_cons,List.take_succ_cons,List.take_zero]at f1 f2
 obtain⟨s,e1,h1⟩:=EO f1
 obtain⟨n,e2,h2⟩:=EO f2
 cases e1;cases e2
 exact⟨(s,n),rfl,h1,h2⟩
theorem Abj {a:AV} (h:Like Tryz.prog 47 a):∃nn l,a=.sl nn (vs pv l)∧Ln l∧(nn=false→l=[])∧∀p∈l,I64 p.1∧I64 p.2:=by
 obtain⟨d,h⟩:=h
 obtain⟨nn,l,e,h1,h2,h3⟩:=TI (f:=pv) (Q:=fun p=>I64 p.1∧I64 p.2) Tryz.underlying47 (fun d x h=>AdH h) h
 exact⟨nn,l,e,Ro h2,h1,h3⟩
structure QT where
 tn:Bool
 types:List (List UInt8)
 c:GC
def QT.av (q:QT):AV:=.agg [.sl q.tn (vs .str q.types),.int .i64 q.c.op,.int .i64 q.c.id,.int .i64 q.c.fr,.int .i64 q.c.to,.str q.c.name,.int .i64 q.c.v.k,.int .i64 q.c.v.n,.int .i64 q.c.v.d,.str q.c.v.s,.sl q.c.v.nn q.c.v.l]
theorem AkR:Tryz.prog.cellsOf 54=11:=by kernel_rfl
theorem Agq {P:Program} {d:Nat} {t:TypeId} {fs:Array Field} {cs:List AV} (hu:P.underlying t=some (.struct fs)) (h:Dv P d t cs):like P d t (.agg cs):=⟨cs,h,by simp only[pack,hu]⟩
theorem AdI {P:Program} {d:Nat} {t e:TypeId} {a:AV} (hu:P.underlying t=some (.slice e)) (h:Dv P d t [a]):like P d t a:=⟨[a],h,by simp[pack,hu]⟩
theorem AdJ {a:AV} (h:Like Tryz.prog 54 a):∃q:QT,a=q.av∧q.types.length<2^63∧q.c.ok:=by
 obtain⟨d,h⟩:=h
 obtain⟨cs,rfl,h0⟩:=EF Tryz.underlying54 h
 obtain⟨d',rfl,g1,g2⟩:=Ee Tryz.underlying54 h0
 rw[AkR]at g1
 obtain⟨a1,r1,rfl,q1⟩:=Jy g1
 clear g1
 simp only[List.forall_mem_cons]at g2
 obtain⟨f3,f4,_⟩:=g2
 simp only[Wq,Zu,List.drop_zero,List.drop_succ_cons,List.take_succ_cons,List.take_zero]at f3 f4
 obtain⟨tn,types,e3,h4⟩:=TG ⟨d',AdI Tryz.underlying26 f3⟩
 rw[List.take_of_length_le (by omega)]at f4
 obtain⟨c,e4,h5⟩:=Sj (Agq Tryz.underlying52 f4)
 subst e3
 unfold GC.av at e4
 simp only[AV.agg.injEq]at e4
 subst e4
 exact⟨⟨tn,types,c⟩,rfl,h4,h5⟩
theorem AkS {v:GV} (hv:v.ok):Af (Ad tab) 17 [.sl true [.sl true [v.av]],.int .i64 60] (fun w=>∃b,w=.bool b):=by
 refine Ac rfl rfl ?_
 (conv=>whnf);repeat' (first  |(refine kA ?_;conv=>whnf)|(refine Br.mk (fun hc=>?_) fun hc=>?_<;>first|exact hc.elim|conv=>whnf)|(refine kB ?_))
 refine I7 ?_ rfl
 (conv=>whnf);repeat' (first  |(refine kA ?_;conv=>whnf)|(refine Br.mk (fun hc=>?_) fun hc=>?_<;>first|exact hc.elim|conv=>whnf)|(refine kB ?_))
 all_goals first|(exfalso;simp_all;done)|skip
 refine I7 ?_ rfl
 (conv=>whnf);repeat' (first|(refine Aa (wei 12 (by omega) hv (by omega) (by omega)) ?_;rintro _ ⟨r,rfl,r1,r2,r3⟩;conv=>whnf)|(refine kA ?_;conv=>whnf)|(refine Br.mk (fun hc=>?_) fun hc=>?_<;>first|exact hc.elim|conv=>whnf)|(refine kB ?_))
 all_goals first|(exfalso;simp_all;done)|skip
 refine I7 ?_ rfl
 (conv=>whnf);repeat' (first  |(refine kA ?_;conv=>whnf)|(refine Br.mk (fun hc=>?_) fun hc=>?_<;>first|exact hc.elim|conv=>whnf)|(refine kB ?_))
 all_goals first|(exfalso;simp_all;done)|skip
 refine I7 ?_ rfl
 (conv=>whnf);repeat' (first  |(refine kA ?_;conv=>whnf)|(refine Br.mk (fun hc=>?_) fun hc=>?_<;>first|exact hc.elim|conv=>whnf)|(refine kB ?_))
 all_goals first
  |(exfalso;simp_all;done)
  |exact⟨_,rfl⟩
set_option maxRecDepth 10000 in
set_option maxHeartbeats 4000000 in
theorem Vh:∀xs,likes Tryz.prog [47,25,54] xs→A8 (Ad Oh) 5 xs ⟨[],0⟩ fun out _=>out=.ok (.bool true):=by
 intro xs h
 match xs,h with
 |[x,y,z],h=>
  obtain⟨h1,h2,h3,_⟩:=h
  obtain⟨ln,l,rfl,hl,hln,_⟩:=Abj h1
  obtain⟨g,rfl,hg⟩:=U3 h2
  obtain⟨⟨tn,types,c⟩,rfl,ht,hc⟩:=AdJ h3
  dsimp only at ht hc
  unfold QT.av
  dsimp only
  unfold Ln at hl
  obtain⟨_,⟨bs,rfl,hs⟩,p0⟩:=((AjA hg (types:=types) (tn:=tn) ht).up Oi).JF
  obtain⟨_,⟨bl,rfl⟩,pl⟩:=((AkS hc.2.2.2.2.2).up Oi).JF
  unfold GV.av at pl
  refine Ar rfl rfl ?_
  cases bs with
  |false=>
   (conv=>whnf);repeat' (first|((first|refine Aa Jf ?_|refine Aa p0 ?_);rintro _ rfl;conv=>whnf)|(refine kA ?_;conv=>whnf)|(refine Br.mk (fun hc=>?_) fun hc=>?_<;>first|exact hc.elim|conv=>whnf)|(refine kB ?_))
   all_goals first|rfl
  |true=>
   obtain⟨hsm,ht8⟩:=hs rfl
   by_cases h40:l.length>40
   ·(conv=>whnf);repeat' (first|((first|refine Aa Jf ?_|refine Aa p0 ?_);rintro _ rfl;conv=>whnf)|(refine kA ?_;conv=>whnf)|(refine Br.mk (fun hc=>?_) fun hc=>?_<;>first|exact hc.elim|conv=>whnf)|(refine kB ?_))
    all_goals first|rfl|(exfalso;omega)
   ·cases bl with
    |false=>
     (conv=>whnf);repeat' (first|((first|refine Aa Jf ?_|refine Aa p0 ?_|refine Aa pl ?_);rintro _ rfl;conv=>whnf)|(refine kA ?_;conv=>whnf)|(refine Br.mk (fun hc=>?_) fun hc=>?_<;>first|exact hc.elim|conv=>whnf)|(refine kB ?_))
     all_goals first|rfl|(exfalso;omega)
    |true=>
     have hN:=hsm.1
     have hE:=hsm.2.1
     have hgE:=AgQ hg hsm
     have hA:=TK (g:=g) (c:=c)
     obtain⟨_,⟨b1,_,rfl⟩,p1⟩:=(AbX hg hc (by omega) (by omega) hgE (types:=types) (tn:=tn) (by omega) (l:=l) (ln:=ln) (by omega) hln ⟨VP hg hc,by omega,by omega⟩).JF
     obtain⟨_,⟨b2,rfl⟩,p2⟩:=((Ag8 hg hc (by omega) (by omega) (types:=types) (tn:=tn) (by omega) (l:=l) (ln:=ln) (by omega) (by omega)).up Oi).JF
     obtain⟨b3,_,p3⟩:=Z8 (tn:=tn) hg (by omega) (by omega) (types:=types) (by omega)
     obtain⟨b4,p4⟩:=rtG (tn:=tn) hg (by omega) (types:=types) (by omega)
     have htl:∀g:GG,g.nodes.length≤100→(JE types g).length<2^40:=fun g h=>by
      unfold JE
      split
      ·unfold Ik;rw[List.length_map];omega
      ·simp
     have hul:(J4 l g types c).length<2^40:=by
      unfold J4
      split
      ·simp
      split
      ·simp
      ·unfold Ik;rw[List.length_map];omega
     have p5:=(AbD (b1:=b3) (b2:=b4) (htl g (by omega)) (htl g (by omega))).up Oi
     have p6:=(AbD (b1:=b1) (b2:=b2) hul hul).up Oi
     rw[decide_eq_true rfl]at p5 p6
     replace p4:=p4.up Oi
     unfold GC.av at p1 p2
     generalize Sm l g types c=e at p1 p2
     generalize J4 l g types c=U at p1 p2 p6
     generalize JE types g=T at p3 p4 p5
     clear hul htl hA hgE hs hsm
     (conv=>whnf);repeat' (first|((first|refine Aa Jf ?_|refine Aa p0 ?_|refine Aa pl ?_|refine Aa p1 ?_|refine Aa p2 ?_|refine Aa p3 ?_|refine Aa p4 ?_|refine Aa p5 ?_|refine Aa p6 ?_);rintro _ rfl;conv=>whnf)|(refine kA ?_;conv=>whnf)|(refine Br.mk (fun hc=>?_) fun hc=>?_<;>first|exact hc.elim|conv=>whnf)|(refine kB ?_))
     all_goals first|rfl|(exfalso;omega)|exact absurd rfl (by assumption)
end AI
end Go.Proofs.YtchcadfjbkkgmaaGreatDoor
