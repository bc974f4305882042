/- Slices within reach; clones of values, properties, strings; looking up a node of any graph. component.edges: the edges of some types. Join, both; Same. Names: the program's and the reference's. value.Plain and the reference's Plain: which values may be stored. -/
import Derived.Test.YtjjhejbffgaabaaGreatDoorMae
import Derived.Test.YtjjhejbffgaabaaGreatDoorMaa
import Derived.Test.YtjjhejbffgaabaaGreatDoorMac
set_option linter.unusedVariables false
set_option maxRecDepth 4000
namespace Go.Proofs.YtjjhejbffgaabaaGreatDoor
namespace AI
theorem Qv {n:Nat} (h:n≤reachBytes):n≤2 ^ 47:=by unfold reachBytes at h;omega
theorem Ab1:Tryz.prog.bytesOf 53=64:=by kernel_rfl
theorem AdA:Tryz.prog.bytesOf 109=80:=by kernel_rfl
theorem Aag:Tryz.prog.bytesOf 9=16:=by kernel_rfl
def Fv:Nat→GV→Prop
 |0,_=>False
 |d+1,v=>v.l.length*64≤2 ^ 47∧∀x∈v.l,∃u:GV,x=u.av∧u.ok∧Fv d u
theorem AcH:∀{d e:Nat} {v:GV},d≤e→Fv d v→Fv e v
 |0,_,_,_,h=>absurd h id
 |d+1,0,_,h,_=>by omega
 |d+1,e+1,v,h,hd=>⟨hd.1,fun x hx=>by
  obtain⟨u,e1,h1,h2⟩:=hd.2 x hx
  exact⟨u,e1,h1,AcH (by omega) h2⟩⟩
theorem TP:∀(d:Nat) {cs:List AV},Ci Tryz.prog d 53 cs→∃v:GV,cs=[.int .i64 v.k,.int .i64 v.n,.int .i64 v.d,.str v.s,.sl v.nn v.l]∧v.ok∧Fv d v:=by
 intro d
 induction d using Nat.strongRecOn with
 |ind d ih=>
  intro cs h
  obtain⟨v,rfl,hv⟩:=Kr h
  refine⟨v,rfl,hv,?_⟩
  obtain⟨d',rfl,g1,g2⟩:=Dc Tryz.underlying53 h
  simp only[List.forall_mem_cons]at g2
  obtain⟨_,_,_,_,f5,_⟩:=g2
  simp only[UW,List.drop_zero,List.drop_succ_cons,List.take_succ_cons,List.take_zero]at f5
  have hs:=Qv (Jl Tryz.underlying51 f5)
  rw[Ab1]at hs
  obtain⟨d'',rfl,nl,xs,e5,h5,h6,h7⟩:=Ij Tryz.underlying51 f5
  cases e5
  refine⟨hs,fun x hx=>?_⟩
  obtain⟨cs',rfl,k⟩:=Dw Tryz.underlying53 (h7 x hx)
  obtain⟨u,rfl,k1,k2⟩:=ih d'' (by omega) k
  exact⟨u,rfl,k1,AcH (by omega) k2⟩
def Ab2 (p:GP):Prop:=∃d,Fv d p.v
def AdB (n:GN):Prop:=n.labels.length*16≤2 ^ 47∧n.props.length*80≤2 ^ 47∧∀p∈n.props,Ab2 p
def AeV (g:GG):Prop:=∀n∈g.nodes,AdB n
theorem WE {d:Nat} {a:AV} (h:like Tryz.prog d 109 a):∃v:GP,a=v.av∧v.ok∧Ab2 v:=by
 obtain⟨cs,rfl,h0⟩:=Dw Tryz.underlying109 h
 obtain⟨d',rfl,g1,g2⟩:=Dc Tryz.underlying109 h0
 rw[Aah]at g1
 obtain⟨a,b,c,e,f,g,rfl⟩:=AeW g1
 clear g1
 simp only[List.forall_mem_cons]at g2
 obtain⟨f1,f2,_⟩:=g2
 simp only[Nk,TQ,List.drop_zero,List.drop_succ_cons,List.take_succ_cons,List.take_zero]at f1 f2
 obtain⟨s,e1,h1⟩:=PS f1
 obtain⟨v,e2,h2,h3⟩:=TP _ f2
 cases e1;cases e2
 exact⟨⟨s,v⟩,rfl,⟨h1,h2⟩,_,h3⟩
theorem WG {d:Nat} {a:AV} (h:like Tryz.prog d 41 a):∃v:GN,a=v.av∧v.ok∧AdB v:=by
 obtain⟨cs,rfl,h0⟩:=Dw Tryz.underlying41 h
 obtain⟨d',rfl,g1,g2⟩:=Dc Tryz.underlying41 h0
 rw[Aai]at g1
 obtain⟨a,b,c,rfl⟩:=AeX g1
 clear g1
 simp only[List.forall_mem_cons]at g2
 obtain⟨f1,f2,f3,_⟩:=g2
 simp only[RQ,RS,TR,List.drop_zero,List.drop_succ_cons,List.take_succ_cons,List.take_zero]at f1 f2 f3
 obtain⟨s,e1,h1⟩:=E8 f1
 obtain⟨ln,L,e2,h2,h2a,h2b⟩:=EJ (f:=.str) (Q:=Ln) Tryz.underlying26 (fun d x h=>UY h) f2
 obtain⟨pn,P,e3,h3,h3a,h3b⟩:=EJ (f:=GP.av) (Q:=fun p=>p.ok∧Ab2 p) Tryz.underlying39 (fun d x h=>WE h) f3
 cases e1;cases e2;cases e3
 have w2:=Qv (Jl Tryz.underlying26 f2)
 have w3:=Qv (Jl Tryz.underlying39 f3)
 rw[Aag,lV]at w2
 rw[AdA,lV]at w3
 exact⟨⟨s,ln,L,pn,P⟩,rfl,⟨h1,h2a,h2,h2b,h3a,h3,fun p hp=>(h3b p hp).1⟩,w2,w3,fun p hp=>(h3b p hp).2⟩
theorem Uz {a:AV} (h:Like Tryz.prog 25 a):∃v:GG,a=v.av∧v.ok∧AeV v:=by
 obtain⟨d,h⟩:=h
 obtain⟨cs,rfl,h0⟩:=Dw Tryz.underlying25 h
 obtain⟨d',rfl,g1,g2⟩:=Dc Tryz.underlying25 h0
 rw[XK]at g1
 obtain⟨a,b,c,e,rfl⟩:=AeY g1
 clear g1
 simp only[List.forall_mem_cons]at g2
 obtain⟨f1,f2,f3,f4,_⟩:=g2
 simp only[RQ,XL,XM,List.drop_zero,List.drop_succ_cons,List.take_succ_cons,List.take_zero]at f1 f2 f3 f4
 obtain⟨nn,N,e1,h1,h1a,h1b⟩:=EJ (f:=GN.av) (Q:=fun n=>n.ok∧AdB n) Tryz.underlying22 (fun d x h=>WG h) f1
 obtain⟨en,E,e2,h2,h2a,h2b⟩:=EJ (f:=GE.av) (Q:=GE.ok) Tryz.underlying23 (fun d x h=>RU h) f2
 obtain⟨m,e3,h3⟩:=E8 f3
 obtain⟨k,e4,h4⟩:=E8 f4
 cases e1;cases e2;cases e3;cases e4
 exact⟨⟨nn,N,en,E,m,k⟩,rfl,⟨h1a,h1,fun n hn=>(h1b n hn).1,h2a,h2,h2b,h3,h4⟩,fun n hn=>(h1b n hn).2⟩
theorem Kt {g es:Nat} {ys:List AV} {bytes:Nat} {K:Nat→Bool→Bool→List AV→Prop} (hs:AZ es ys) (hr:ys.length*bytes≤2 ^ 47) (h:K ys.length true true ys):
 KT g g es es 0 true true true [] ys bytes K:=by
 refine⟨⟨rfl,rfl,by simp,hs,?_⟩,?_⟩
 ·rw[Nat.zero_add];exact hr
 ·rw[Nat.zero_add];exact h
theorem Aaj:BL (Ae tab) 94 [.sl false []] ⟨[],0⟩ fun out _=>out=.ok (.sl false []):=by
 refine BI rfl rfl ?_
 (conv=>whnf);repeat' (first  |(refine kA ?_;conv=>whnf)|(refine Br.mk (fun hc=>?_) fun hc=>?_<;>first|exact hc.elim|conv=>whnf)|(refine kB ?_))
 rfl
theorem Ab3 {l:List AV} (hs:AZ 5 l) (hl:l.length*64≤2 ^ 47):BL (Ae tab) 94 [.sl true l] ⟨[],0⟩ fun out s'=>∃o g,out=.ok (.own o g 0 l.length)∧nth s'.σ o=some (.arr g 5 true true l):=by
 refine BI rfl rfl ?_
 (conv=>whnf);repeat' (first  |(refine kA ?_;conv=>whnf)|(refine Br.mk (fun hc=>?_) fun hc=>?_<;>first|exact hc.elim|conv=>whnf)|(refine kB ?_))
 refine Kt hs hl ?_
 (conv=>whnf);repeat' (first  |(refine kA ?_;conv=>whnf)|(refine Br.mk (fun hc=>?_) fun hc=>?_<;>first|exact hc.elim|conv=>whnf)|(refine kB ?_))
 exact⟨_,_,rfl,rfl⟩
theorem RV {l:List AV} {z:Nat} {x:AV} (h:nth l z=some x):l.set z x=l:=by
 rw[Aw]at h
 obtain⟨hz,rfl⟩:=List.getElem?_eq_some_iff.1 h
 exact List.set_getElem_self hz
theorem XO (l:List AV):sub l 0 l.length=l:=by unfold sub;exact List.take_of_length_le (by simp)
theorem Ab4 {d:Nat} {l:List AV} (h:∀x∈l,∃u:GV,x=u.av∧u.ok∧Fv d u):AZ 5 l:=by
 intro x hx
 obtain⟨u,rfl,_⟩:=h x hx
 rfl
theorem WH {d:Nat} {g:GV} (hg:g.ok) (h2:g.l.length*64≤2 ^ 47) (h3:∀x∈g.l,∃u:GV,x=u.av∧u.ok∧Fv d u) (ih:∀{g:GV},g.ok→Fv d g→Ar (Ae tab) 73 [g.av] (· =g.av)):
 Ar (Ae tab) 73 [g.av] (· =g.av):=by
 obtain⟨g1,g2,g3,g4,g5,g6,g7⟩:=hg
 obtain⟨k,n,dd,s,nn,l⟩:=g
 simp only at*
 cases nn with
 |false=>
  obtain rfl:=g6 rfl
  refine Ad rfl rfl ?_
  (conv=>whnf);repeat' (first  |(refine kA ?_;conv=>whnf)|(refine Br.mk (fun hc=>?_) fun hc=>?_<;>first|exact hc.elim|conv=>whnf)|(refine kB ?_))
  refine PZ rfl Aaj ?_
  (conv=>whnf);repeat' (first  |(refine kA ?_;conv=>whnf)|(refine Br.mk (fun hc=>?_) fun hc=>?_<;>first|exact hc.elim|conv=>whnf)|(refine kB ?_))
  refine RX ?_ rfl
  (conv=>whnf);repeat' (first  |(refine kA ?_;conv=>whnf)|(refine Br.mk (fun hc=>?_) fun hc=>?_<;>first|exact hc.elim|conv=>whnf)|(refine kB ?_))
  rfl
 |true=>
  refine Ad rfl rfl ?_
  (conv=>whnf);repeat' (first  |(refine kA ?_;conv=>whnf)|(refine Br.mk (fun hc=>?_) fun hc=>?_<;>first|exact hc.elim|conv=>whnf)|(refine kB ?_))
  refine Adf rfl (Ab3 (Ab4 h3) h2) ?_
  (conv=>whnf);repeat' (first  |(refine kA ?_;conv=>whnf)|(refine Br.mk (fun hc=>?_) fun hc=>?_<;>first|exact hc.elim|conv=>whnf)|(refine kB ?_))
  refine Ah (fun m env st=>∃i:Nat,m=l.length-i∧env=[(1,.ref 0 0 0 0),(2,.ref 1 1 0 0),(10,.int .i64 l.length),(11,.int .i64 i)]∧st=⟨[.arr 0 5 true false [.agg [.int .i64 k,.int .i64 n,.int .i64 dd,.str s,.own 2 2 0 l.length]],.arr 1 5 true true [.agg [.int .i64 0,.int .i64 0,.int .i64 0,.str [],.sl false []]],.arr 2 5 true true l],3⟩) ?_ _ _ _ ⟨0,rfl,rfl,rfl⟩
  rintro _ _ _ ⟨i,rfl,rfl,rfl⟩
  refine⟨rfl,?_⟩
  unfold Ln at g5
  by_cases hlt:i<l.length
  ·obtain⟨u,e,hu,hd⟩:=h3 _ (List.getElem_mem hlt)
   have hn:nth l (Int.toNat (Nat.cast i))=some u.av:=by rw[← e];exact nRN hlt
   (conv=>whnf);repeat' (first|(apply Am;(· exact hn);conv=>whnf)|(refine Aa (ih hu hd) ?_;rintro _ rfl;conv=>whnf)|(apply Ec;(· exact RV (x:=u.av) hn);conv=>whnf)|(refine kA ?_;conv=>whnf)|(refine Br.mk (fun hc=>?_) fun hc=>?_<;>first|exact hc.elim|conv=>whnf)|(refine kB ?_))
   all_goals first
        |(exfalso;omega)
        |exact again.mk ⟨_,by omega,i+1,rfl,rfl,rfl⟩
  ·(conv=>whnf);repeat' (first  |(refine kA ?_;conv=>whnf)|(refine Br.mk (fun hc=>?_) fun hc=>?_<;>first|exact hc.elim|conv=>whnf)|(refine kB ?_))
   all_goals first
        |(exfalso;omega)
        |(rw [XO];rfl)
theorem RY:∀(d:Nat) {g:GV},g.ok→Fv d g→Ar (Ae tab) 73 [g.av] (· =g.av)
 |0,_,_,h=>by cases h
 |d+1,g,hg,h=>WH hg h.1 h.2 (RY d)
theorem Ab5 {l:List (List UInt8)} {nn:Bool} (hl:l.length*16≤2 ^ 47) (hn:nn=false→l=[]):Ar (Ae tab) 41 [.sl nn (vs .str l)] (· =.sl nn (vs .str l)):=by
 cases nn with
 |false=>
  obtain rfl:=hn rfl
  refine Ad rfl rfl ?_
  (conv=>whnf);repeat' (first  |(refine kA ?_;conv=>whnf)|(refine Br.mk (fun hc=>?_) fun hc=>?_<;>first|exact hc.elim|conv=>whnf)|(refine kB ?_))
  rfl
 |true=>
  refine Ad rfl rfl ?_
  (conv=>whnf);repeat' (first  |(refine kA ?_;conv=>whnf)|(refine Br.mk (fun hc=>?_) fun hc=>?_<;>first|exact hc.elim|conv=>whnf)|(refine kB ?_))
  refine Kt (LZ (f:=.str) (fun _=>rfl) l) (by rw[lV];omega) ?_
  (conv=>whnf);repeat' (first  |(refine kA ?_;conv=>whnf)|(refine Br.mk (fun hc=>?_) fun hc=>?_<;>first|exact hc.elim|conv=>whnf)|(refine kB ?_))
  rw[lV,uV]
theorem Aak:BL (Ae tab) 72 [.sl false []] ⟨[],0⟩ fun out _=>out=.ok (.sl false []):=by
 refine BI rfl rfl ?_
 (conv=>whnf);repeat' (first  |(refine kA ?_;conv=>whnf)|(refine Br.mk (fun hc=>?_) fun hc=>?_<;>first|exact hc.elim|conv=>whnf)|(refine kB ?_))
 rfl
theorem Ab6 {l:List GP} (hl:l.length*80≤2 ^ 47):BL (Ae tab) 72 [.sl true (vs GP.av l)] ⟨[],0⟩ fun out s'=>∃o g,out=.ok (.own o g 0 (vs GP.av l).length)∧nth s'.σ o=some (.arr g 6 true true (vs GP.av l)):=by
 refine BI rfl rfl ?_
 (conv=>whnf);repeat' (first  |(refine kA ?_;conv=>whnf)|(refine Br.mk (fun hc=>?_) fun hc=>?_<;>first|exact hc.elim|conv=>whnf)|(refine kB ?_))
 refine Kt (LZ (f:=GP.av) (fun _=>rfl) l) (by rw[lV];omega) ?_
 (conv=>whnf);repeat' (first  |(refine kA ?_;conv=>whnf)|(refine Br.mk (fun hc=>?_) fun hc=>?_<;>first|exact hc.elim|conv=>whnf)|(refine kB ?_))
 exact⟨_,_,rfl,rfl⟩
theorem Aal {ps:List GP} {nn:Bool} (hl:ps.length*80≤2 ^ 47) (hn:nn=false→ps=[]) (hok:∀p∈ps,p.ok) (hL:∀p∈ps,Ab2 p):Ar (Ae tab) 42 [.sl nn (vs GP.av ps)] (· =.sl nn (vs GP.av ps)):=by
 cases nn with
 |false=>
  obtain rfl:=hn rfl
  refine Ad rfl rfl ?_
  (conv=>whnf);repeat' (first  |(refine kA ?_;conv=>whnf)|(refine Br.mk (fun hc=>?_) fun hc=>?_<;>first|exact hc.elim|conv=>whnf)|(refine kB ?_))
  refine PZ rfl Aak ?_
  (conv=>whnf);repeat' (first  |(refine kA ?_;conv=>whnf)|(refine Br.mk (fun hc=>?_) fun hc=>?_<;>first|exact hc.elim|conv=>whnf)|(refine kB ?_))
  refine RX ?_ rfl
  (conv=>whnf);repeat' (first  |(refine kA ?_;conv=>whnf)|(refine Br.mk (fun hc=>?_) fun hc=>?_<;>first|exact hc.elim|conv=>whnf)|(refine kB ?_))
  rfl
 |true=>
  refine Ad rfl rfl ?_
  (conv=>whnf);repeat' (first  |(refine kA ?_;conv=>whnf)|(refine Br.mk (fun hc=>?_) fun hc=>?_<;>first|exact hc.elim|conv=>whnf)|(refine kB ?_))
  refine Adf rfl (Ab6 hl) ?_
  (conv=>whnf);repeat' (first  |(refine kA ?_;conv=>whnf)|(refine Br.mk (fun hc=>?_) fun hc=>?_<;>first|exact hc.elim|conv=>whnf)|(refine kB ?_))
  refine Ah (fun m env st=>∃i:Nat,m=ps.length-i∧env=[(3,.own 0 0 0 (vs GP.av ps).length),(8,.int .i64 (vs GP.av ps).length),(9,.int .i64 i)]∧st=⟨[.arr 0 6 true true (vs GP.av ps)],1⟩) ?_ _ _ _ ⟨0,rfl,rfl,rfl⟩
  rintro _ _ _ ⟨i,rfl,rfl,rfl⟩
  refine⟨rfl,?_⟩
  have hll:(vs GP.av ps).length=ps.length:=lV _
  by_cases hlt:i<ps.length
  ·obtain⟨d,hd⟩:=hL _ (List.getElem_mem hlt)
   have hv:=(hok _ (List.getElem_mem hlt)).2
   (conv=>whnf);repeat' (first|(refine Aa (RY d (g:=ps[i].v) hv hd) ?_;rintro _ rfl;conv=>whnf)|(apply Ec;(· exact RV (x:=(ps[i]).av) (nVN (by omega)));conv=>whnf)|(refine kA ?_;conv=>whnf)|(refine Br.mk (fun hc=>?_) fun hc=>?_<;>first|exact hc.elim|conv=>whnf)|(refine kB ?_))
   all_goals first
        |(exfalso;omega)
        |exact again.mk ⟨_,by omega,i+1,rfl,rfl,rfl⟩
  ·(conv=>whnf);repeat' (first  |(refine kA ?_;conv=>whnf)|(refine Br.mk (fun hc=>?_) fun hc=>?_<;>first|exact hc.elim|conv=>whnf)|(refine kB ?_))
   all_goals first
        |(exfalso;omega)
        |(rw [XO];done)
theorem AeF {g:GG} (hg:g.ok) (hf:AeV g) (hl:g.nodes.length<2^62) {id:Int}:Ar (Ae tab) 18 [g.av,.int .i64 id] (fun v=>∃n:GN,v=.EY [n.av,.bool (decide (id∈g.nodes.map GN.id))]):=by
 refine Ad rfl rfl ?_
 (conv=>whnf);repeat' (first  |(refine kA ?_;conv=>whnf)|(refine Br.mk (fun hc=>?_) fun hc=>?_<;>first|exact hc.elim|conv=>whnf)|(refine kB ?_))
 refine Ah (fun m env s=>∃i c:Nat,m=g.nodes.length-i∧(∀ x∈g.nodes.take i,x.id≠id)∧env=[(1,.int .i64 id),(4,.ref 1 1 0 0),(9,.sl g.nn (vs GN.av g.nodes)),(10,.int .i64 g.nodes.length),(11,.int .i64 i)]∧s=⟨[.arr 0 4 true true [g.av],.arr 1 3 true true [.agg [.int .i64 0,.sl false [],.sl false []]]],c⟩) ?_ _ _ _ ⟨0,_,rfl,by simp,by first|rfl|(rw [← lV (f:=GN.av) g.nodes];rfl),rfl⟩
 rintro _ _ _ ⟨i,c,rfl,hx,rfl,rfl⟩
 refine⟨rfl,?_⟩
 by_cases hlt:i<g.nodes.length
 ·have hm:=List.getElem_mem hlt
  obtain⟨_,_,o1,_,_,o2,o3⟩:=hg.2.2.1 _ hm
  obtain⟨w1,w2,w3⟩:=hf _ hm
  by_cases he:(g.nodes[i]).id=id
  ·have hin:id∈g.nodes.map GN.id:=List.mem_map.2 ⟨_,hm,he⟩
   rw[decide_eq_true hin]
   (conv=>whnf);repeat' (first|((first|refine Aa (Ab5 (l:=g.nodes[i].labels) w1 o1) ?_|refine Aa (Aal (ps:=g.nodes[i].props) w2 o2 o3 w3) ?_);rintro _ rfl;conv=>whnf)|(refine kA ?_;conv=>whnf)|(refine Br.mk (fun hc=>?_) fun hc=>?_<;>first|exact hc.elim|conv=>whnf)|(refine kB ?_))
   all_goals first
        |(exfalso;omega)
        |exact⟨⟨id,_,_,_,_⟩,rfl⟩
  ·(conv=>whnf);repeat' (first  |(refine kA ?_;conv=>whnf)|(refine Br.mk (fun hc=>?_) fun hc=>?_<;>first|exact hc.elim|conv=>whnf)|(refine kB ?_))
   all_goals first
        |(exfalso;omega)
        |exact again.mk ⟨_,by omega,i+1,_,rfl,fun x hx'=>by
          rw[List.take_succ_eq_append_getElem hlt,List.mem_append,List.mem_singleton]at hx'
          rcases hx' with k|k
          ·exact hx x k
          ·subst k;exact he,rfl,rfl⟩
 ·rw[List.take_of_length_le (by omega)]at hx
  have hin:¬id∈g.nodes.map GN.id:=fun k=>by obtain⟨n,hn,e⟩:=List.mem_map.1 k;exact hx n hn e
  rw[decide_eq_false hin]
  (conv=>whnf);repeat' (first  |(refine kA ?_;conv=>whnf)|(refine Br.mk (fun hc=>?_) fun hc=>?_<;>first|exact hc.elim|conv=>whnf)|(refine kB ?_))
  all_goals first
   |(exfalso;omega)
   |exact⟨⟨0,false,[],false,[]⟩,rfl⟩
theorem AfI {types:List (List UInt8)} {tn:Bool} (hl:types.length<2^63) {e:GE}:Ar (Ae tab) 53 [e.av,.CP [.sl tn (vs .str types)]] (· =.bool (!decide (HT types e))):=by
 have p1:=P7 (l:=types) (e:=e) (nn:=tn) (by omega)
 refine Ad rfl rfl ?_
 (conv=>whnf);repeat' (first|(refine Aa p1 ?_;rintro _ rfl;conv=>whnf)|(refine kA ?_;conv=>whnf)|(refine Br.mk (fun hc=>?_) fun hc=>?_<;>first|exact hc.elim|conv=>whnf)|(refine kB ?_))
 all_goals first|(rw [‹decide (HT types e)=true›];rfl)|(rw [‹decide (HT types e)=false›];rfl)|rfl
inductive Aeh (p:GE→Prop) (L:List GE):AV→Prop
 |at(i:Nat) (h:i<L.length) (hf:¬p L[i]) (hb:∀e∈L.take i,p e):Aeh p L (.int .i64 i)
 |no (hf:∀e∈L,p e):Aeh p L (.int .i64 (-1))
theorem AfJ {types:List (List UInt8)} {tn nn:Bool} (hl:types.length<2^63) {L:List GE} (hL:L.length<2^62):
 Ar (Ae tab) 80 [.sl nn (vs GE.av L),.fn 53 [.CP [.sl tn (vs .str types)]]] (Aeh (HT types) L):=by
 refine Ad rfl rfl ?_
 (conv=>whnf);repeat' (first  |(refine kA ?_;conv=>whnf)|(refine Br.mk (fun hc=>?_) fun hc=>?_<;>first|exact hc.elim|conv=>whnf)|(refine kB ?_))
 refine Ah (fun m env s=>∃i:Nat,m=L.length-i∧env=[(0,.sl nn (vs GE.av L)),(1,.fn 53 [.CP [.sl tn (vs .str types)]]),(7,.int .i64 L.length),(8,.int .i64 i)]∧s=⟨[],0⟩∧∀e∈L.take i,HT types e) ?_ _ _ _ ⟨0,rfl,rfl,rfl,by simp⟩
 rintro _ _ _ ⟨i,rfl,rfl,rfl,hx⟩
 refine⟨rfl,?_⟩
 by_cases hlt:i<L.length
 ·have hp:=AfI (types:=types) (tn:=tn) hl (e:=L[i])
  by_cases he:HT types L[i]
  ·rw[decide_eq_true he]at hp
   (conv=>whnf);repeat' (first|(refine Aa hp ?_;rintro _ rfl;conv=>whnf)|(refine kA ?_;conv=>whnf)|(refine Br.mk (fun hc=>?_) fun hc=>?_<;>first|exact hc.elim|conv=>whnf)|(refine kB ?_))
   all_goals first
        |(exfalso;omega)
        |exact again.mk ⟨_,by omega,i+1,rfl,rfl,rfl,fun e h=>by
          rw[List.take_succ_eq_append_getElem hlt,List.mem_append,List.mem_singleton]at h
          rcases h with h|h
          ·exact hx e h
          ·subst h;exact he⟩
  ·rw[decide_eq_false he]at hp
   (conv=>whnf);repeat' (first|(refine Aa hp ?_;rintro _ rfl;conv=>whnf)|(refine kA ?_;conv=>whnf)|(refine Br.mk (fun hc=>?_) fun hc=>?_<;>first|exact hc.elim|conv=>whnf)|(refine kB ?_))
   all_goals first
        |(exfalso;omega)
        |exact .at i hlt he hx
 ·rw[List.take_of_length_le (by omega)]at hx
  (conv=>whnf);repeat' (first  |(refine kA ?_;conv=>whnf)|(refine Br.mk (fun hc=>?_) fun hc=>?_<;>first|exact hc.elim|conv=>whnf)|(refine kB ?_))
  all_goals first
   |(exfalso;omega)
   |exact .no hx
structure Del (p:GE→Prop) [DecidablePred p] (L W:List GE) (i j:Nat):Prop where
 len:W.length=L.length
 le:i≤j
 new:W.take i=(L.take j).filter fun e=>decide (p e)
 old:∀k,j≤k→W[k]?=L[k]?
section
variable {p:GE→Prop} [DecidablePred p] {L W:List GE} {i j:Nat}
theorem Del.start {i:Nat} (h:i<L.length) (hf:¬p L[i]) (hb:∀e∈L.take i,p e):Del p L L i (i+1):=by
 refine⟨rfl,by omega,?_,fun _ _=>rfl⟩
 rw[List.take_succ_eq_append_getElem h,List.filter_append,List.filter_eq_self.2 fun e he=>decide_eq_true (hb e he)]
 simp[hf]
theorem Del.at (h:Del p L W i j) (hj:j<L.length):W[j]'(by rw[h.len];exact hj)=L[j]:=by
 have:=h.old j (Nat.le_refl _)
 rw[List.getElem?_eq_getElem hj,List.getElem?_eq_getElem (by rw[h.len];exact hj)]at this
 simpa using this
theorem Del.keep (h:Del p L W i j) (hj:j<L.length) (hp:p L[j]):Del p L (W.set i L[j]) (i+1) (j+1):=by
 have hi:i<W.length:=by rw[h.len];have:=h.le;omega
 refine⟨by simp[h.len],by have:=h.le;omega,?_,fun k hk=>?_⟩
 ·rw[List.take_succ_eq_append_getElem (by simpa using hi),List.getElem_set_self,List.take_set_of_le (Nat.le_refl _),h.new,List.take_succ_eq_append_getElem hj,List.filter_append]
  simp[hp]
 ·rw[List.getElem?_set_ne (by have:=h.le;omega)];exact h.old k (by omega)
theorem Del.drop (h:Del p L W i j) (hj:j<L.length) (hp:¬p L[j]):Del p L W i (j+1):=by
 refine⟨h.len,by have:=h.le;omega,?_,fun k hk=>h.old k (by omega)⟩
 rw[h.new,List.take_succ_eq_append_getElem hj,List.filter_append]
 simp[hp]
theorem Del.all (h:Del p L W i j) (hj:¬j<L.length):W.take i=L.filter fun e=>decide (p e):=by
 rw[h.new,List.take_of_length_le (by omega)]
end
theorem X5 (e:GE):e.av.cells.length=5:=rfl
theorem Ahi {i n c g:Nat} {Lp Pg:Obj} {W:List GE} {env:Env} (h:i≤n) (hW:W.length=n) (he:env.get 38=.own 2 g (Int.toNat (i:Int)) (n-Int.toNat (i:Int))):
 Af W9 (.clear 5 (.tmp 38)) env ⟨[Lp,Pg,.arr g 5 true true (vs GE.av W)],c⟩=some (.ok .undef,⟨[Lp,Pg,.arr g 5 true true (vs GE.av (W.take i))],c⟩):=by
 have e1:(AO.tmp 38).val env=.own 2 g i (n-i):=he
 have hl:(vs GE.av W).length=n:=by rw[lV,hW]
 simp only[Af,e1,nth]
 rw[if_pos ⟨trivial,trivial,by rw[hl];omega⟩]
 have e2:(if n-i=0 then vs GE.av W else(vs GE.av W).take i)=vs GE.av (W.take i):=by
  split
  ·rw[List.take_of_length_le (by omega)]
  ·simp[vs,List.map_take]
 rw[e2]
 rfl
set_option maxHeartbeats 1000000 in
theorem Ahj {types:List (List UInt8)} {tn:Bool} (hl:types.length<2^63) {L:List GE} (hL:L.length<2^40) {Lp Pg:Obj} {g c n:Nat} (hn:n=L.length):
 BL (Ae tab) 51 [.own 2 g 0 n,.fn 53 [.CP [.sl tn (vs .str types)]]] ⟨[Lp,Pg,.arr g 5 true true (vs GE.av L)],c⟩
  fun out s'=>∃c' W,W=(L.filter fun e=>decide (HT types e))∧out=.ok (.own 2 g 0 W.length)∧s'=⟨[Lp,Pg,.arr g 5 true true (vs GE.av W)],c'⟩:=by
 subst hn
 obtain⟨_,iE,pI⟩:=(AfJ (types:=types) (tn:=tn) (nn:=true) hl (L:=L) (by omega)).Ob
 refine BI rfl rfl ?_
 cases iE with
 |no hf=>
  (conv=>whnf);repeat' (first|(refine Aa pI ?_;rintro _ rfl;conv=>whnf)|(refine kA ?_;conv=>whnf)|(refine Br.mk (fun hc=>?_) fun hc=>?_<;>first|exact hc.elim|conv=>whnf)|(refine kB ?_))
  all_goals first
   |(exfalso;omega)
   |exact⟨_,L,(List.filter_eq_self.2 fun e he=>decide_eq_true (hf e he)).symm,rfl,rfl⟩
 |«at» i hi hf hb=>
  (conv=>whnf);repeat' (first|(refine Aa pI ?_;rintro _ rfl;conv=>whnf)|(refine kA ?_;conv=>whnf)|(refine Br.mk (fun hc=>?_) fun hc=>?_<;>first|exact hc.elim|conv=>whnf)|(refine kB ?_))
  all_goals first|(exfalso;omega)|skip
  refine Ah (fun m env s=>∃(i j c:Nat) (W:List GE),m=L.length-j∧Del (HT types) L W i j∧i≤L.length∧env=[(0,.own 2 g 0 L.length),(1,.fn 53 [.CP [.sl tn (vs .str types)]]),(5,.int .i64 i),(6,.int .i64 j)]∧s=⟨[Lp,Pg,.arr g 5 true true (vs GE.av W)],c⟩) ?_ _ _ _ ⟨i,i+1,_,L,rfl,.start hi hf hb,by omega,by simp,rfl⟩
  clear hc pI hi hf hb
  rintro _ _ _ ⟨i,j,c,W,rfl,hD,hi,rfl,rfl⟩
  refine⟨rfl,?_⟩
  have hWl:=hD.len
  have hij:=hD.le
  by_cases hlt:j<L.length
  ·have hx:=hD.at hlt
   have n1:nth (vs GE.av W) (Int.toNat (Nat.cast j))=some (L[j]).av:=by rw[← hx];exact nVN (by omega)
   have hp:=AfI (types:=types) (tn:=tn) hl (e:=L[j])
   by_cases he:HT types L[j]
   ·rw[decide_eq_true he]at hp
    have hlw:i<W.length:=by omega
    (conv=>whnf);repeat' (first|(apply Am;(· exact n1);conv=>whnf)|(refine Aa hp ?_;rintro _ rfl;conv=>whnf)|(refine tV (f:=GE.av) (x:=L[j]) X5 i ?_;conv=>whnf)|(refine kA ?_;conv=>whnf)|(refine Br.mk (fun hc=>?_) fun hc=>?_<;>first|exact hc.elim|conv=>whnf)|(refine kB ?_))
    all_goals first
     |(exfalso;omega)
     |exact again.mk ⟨_,by omega,i+1,j+1,_,_,rfl,hD.keep hlt he,by omega,by simp,rfl⟩
   ·rw[decide_eq_false he]at hp
    (conv=>whnf);repeat' (first|(apply Am;(· exact n1);conv=>whnf)|(refine Aa hp ?_;rintro _ rfl;conv=>whnf)|(refine kA ?_;conv=>whnf)|(refine Br.mk (fun hc=>?_) fun hc=>?_<;>first|exact hc.elim|conv=>whnf)|(refine kB ?_))
    all_goals first
     |(exfalso;omega)
     |exact again.mk ⟨_,by omega,i,j+1,_,_,rfl,hD.drop hlt he,by omega,by simp,rfl⟩
  ·have he:=hD.all hlt
   have Zx:(W.take i).length=i:=by rw[List.length_take];omega
   (conv=>whnf);repeat' (first|(apply BO (Ahi hi hWl rfl);conv=>whnf)|(refine kA ?_;conv=>whnf)|(refine Br.mk (fun hc=>?_) fun hc=>?_<;>first|exact hc.elim|conv=>whnf)|(refine kB ?_))
   all_goals first
        |(exfalso;omega)
        |exact⟨_,W.take i,he,congrArg (fun n=>AA.ok (.own 2 g 0 n)) Zx.symm,rfl⟩
theorem Aba {L:List GE} (hl:L.length<2^40):BL (Ae tab) 52 [.sl true (vs GE.av L)] ⟨[],0⟩ fun out s'=>∃o g,out=.ok (.own o g 0 (vs GE.av L).length)∧nth s'.σ o=some (.arr g 5 true true (vs GE.av L)):=by
 refine BI rfl rfl ?_
 (conv=>whnf);repeat' (first|(refine Aan (f:=GE.av) (l:=[]) (l':=L) rfl X5 rfl (by simp;omega) ?_;conv=>whnf)|(refine kA ?_;conv=>whnf)|(refine Br.mk (fun hc=>?_) fun hc=>?_<;>first|exact hc.elim|conv=>whnf)|(refine kB ?_))
 all_goals first|exact⟨0,_,congrArg (fun n=>AA.ok (.own 0 _ 0 n)) ((Nat.zero_add _).trans (lV L).symm),rfl⟩
theorem Abb:BL (Ae tab) 52 [.sl false []] ⟨[],0⟩ fun out _=>out=.ok (.sl false []):=by
 refine BI rfl rfl ?_
 (conv=>whnf);repeat' (first  |(refine kA ?_;conv=>whnf)|(refine Br.mk (fun hc=>?_) fun hc=>?_<;>first|exact hc.elim|conv=>whnf)|(refine kB ?_))
 all_goals first|rfl
theorem AfK {types:List (List UInt8)} {tn:Bool} (hl:types.length<2^63) {Lp Pg:Obj} {g c:Nat}:
 BL (Ae tab) 51 [.own 2 g 0 0,.fn 53 [.CP [.sl tn (vs .str types)]]] ⟨[Lp,Pg,.arr g 1 false true []],c⟩
  fun out s'=>∃c',out=.ok (.own 2 g 0 0)∧s'=⟨[Lp,Pg,.arr g 1 false true []],c'⟩:=by
 obtain⟨_,iE,pI⟩:=(AfJ (types:=types) (tn:=tn) (nn:=false) hl (L:=[]) (by simp)).Ob
 cases iE with
 |«at» i hi hf hb=>exact absurd hi (by simp)
 |no hf=>
 refine BI rfl rfl ?_
 (conv=>whnf);repeat' (first|(refine Aa pI ?_;rintro _ rfl;conv=>whnf)|(refine kA ?_;conv=>whnf)|(refine Br.mk (fun hc=>?_) fun hc=>?_<;>first|exact hc.elim|conv=>whnf)|(refine kB ?_))
 all_goals first
  |(exfalso;omega)
  |exact⟨_,rfl,rfl⟩
def CG (types:List (List UInt8)) (g:GG):List GE:=g.edges.filter fun e=>decide (HT types e)
theorem WM {types:List (List UInt8)} {tn:Bool} (hl:types.length<2^63) {g:GG} (hg:g.ok) (hE:g.edges.length<2^39):Ar (Ae tab) 27 [g.av,.sl tn (vs .str types)] (fun v=>∃b,v=.sl b (vs GE.av (CG types g))):=by
 unfold CG
 cases hen:g.en with
 |false=>
  have h0:g.edges=[]:=hg.2.2.2.2.1 hen
  have hav:g.av=.agg [.sl g.nn (vs GN.av g.nodes),.sl false [],.int .i64 g.FI,.int .i64 g.Hw]:=by unfold GG.av;rw[hen,h0];rfl
  rw[hav,h0]
  refine Ad rfl rfl ?_
  (conv=>whnf);repeat' (first|(refine PZ rfl Abb ?_;conv=>whnf)|(refine (AfK hl).mono ?_;rintro _ _ ⟨c',rfl,rfl⟩;conv=>whnf)|(refine kA ?_;conv=>whnf)|(refine Br.mk (fun hc=>?_) fun hc=>?_<;>first|exact hc.elim|conv=>whnf)|(refine kB ?_))
  all_goals first|(exfalso;omega)|exact⟨false,rfl⟩
 |true=>
  have hav:g.av=.agg [.sl g.nn (vs GN.av g.nodes),.sl true (vs GE.av g.edges),.int .i64 g.FI,.int .i64 g.Hw]:=by unfold GG.av;rw[hen]
  rw[hav]
  have pc:=Aba (L:=g.edges) (by omega)
  refine Ad rfl rfl ?_
  (conv=>whnf);repeat' (first|(refine Adf rfl pc ?_;conv=>whnf)|(refine (Ahj hl (L:=g.edges) (by omega) (lV _)).mono ?_;rintro _ _ ⟨c',W,hW,rfl,rfl⟩;conv=>whnf)|(refine kA ?_;conv=>whnf)|(refine Br.mk (fun hc=>?_) fun hc=>?_<;>first|exact hc.elim|conv=>whnf)|(refine kB ?_))
  all_goals first|(exfalso;omega)|exact⟨true,by rw[hW]⟩
def LB (l:List (Int×Int)):AV→Prop:=fun v=>∃b,v=.sl b (vs pv l)
theorem TA {f:Int×Int→AV} {l:List (Int×Int)} {n:Nat} (h:n=l.length):sub (vs f l) 0 n=vs f l:=by subst h;exact uV
set_option maxHeartbeats 1000000 in
theorem Ae1 {l:List (Int×Int)} {a b:Int} {nn:Bool} (hl:l.length<2^40):Ar (Ae tab) 32 [.sl nn (vs pv l),.int .i64 a,.int .i64 b] (LB (Nl l a b)):=by
 have pa:=AcI (l:=l) (a:=a) (nn:=nn) (by omega)
 have pb:=AcI (l:=l) (a:=b) (nn:=nn) (by omega)
 unfold Nl
 cases ha:Iu l a with
 |none=>
  rw[ha]at pa
  obtain⟨_,rfl,pb⟩:=pb.Ob
  cases hb:Iu l b with
  |none=>
   rw[hb]at pb
   refine Ad rfl rfl ?_
   (conv=>whnf);repeat' (first|((first|refine Aa pa ?_|refine Aa pb ?_);rintro _ rfl;conv=>whnf)|(refine Aan (f:=pv) (l:=[]) (l':=l) rfl Ip rfl (by simp;omega) ?_;conv=>whnf)|(refine kA ?_;conv=>whnf)|(refine Br.mk (fun hc=>?_) fun hc=>?_<;>first|exact hc.elim|conv=>whnf)|(refine kB ?_))
   all_goals first|(exfalso;omega)|exact⟨true,congrArg (AV.sl true) (TA (by simp))⟩
  |some y=>
   rw[hb]at pb
   refine Ad rfl rfl ?_
   (conv=>whnf);repeat' (first|((first|refine Aa pa ?_|refine Aa pb ?_);rintro _ rfl;conv=>whnf)|(refine Aan (f:=pv) (l:=[]) (l':=l) rfl Ip rfl (by simp;omega) ?_;conv=>whnf)|(refine kA ?_;conv=>whnf)|(refine Br.mk (fun hc=>?_) fun hc=>?_<;>first|exact hc.elim|conv=>whnf)|(refine kB ?_))
   all_goals first|(exfalso;omega)|exact⟨true,congrArg (AV.sl true) (TA (by simp))⟩
 |some x=>
  rw[ha]at pa
  cases hb:Iu l b with
  |none=>
   rw[hb]at pb
   refine Ad rfl rfl ?_
   (conv=>whnf);repeat' (first|((first|refine Aa pa ?_|refine Aa pb ?_);rintro _ rfl;conv=>whnf)|(refine Aan (f:=pv) (l:=[]) (l':=l) rfl Ip rfl (by simp;omega) ?_;conv=>whnf)|(refine kA ?_;conv=>whnf)|(refine Br.mk (fun hc=>?_) fun hc=>?_<;>first|exact hc.elim|conv=>whnf)|(refine kB ?_))
   all_goals first|(exfalso;omega)|exact⟨true,congrArg (AV.sl true) (TA (by simp))⟩
  |some y=>
   rw[hb]at pb
   refine Ad rfl rfl ?_
   (conv=>whnf);repeat' (first|((first|refine Aa pa ?_|refine Aa pb ?_);rintro _ rfl;conv=>whnf)|(refine Aan (f:=pv) (l:=[]) (l':=l) rfl Ip rfl (by simp;omega) ?_;conv=>whnf)|(refine kA ?_;conv=>whnf)|(refine Br.mk (fun hc=>?_) fun hc=>?_<;>first|exact hc.elim|conv=>whnf)|(refine kB ?_))
   refine Ah (fun m env s=>∃(i c g n:Nat) (W:List (Int×Int)),m=l.length-i∧n=l.length∧Half (Ez x y) l W i∧env=[(7,.int .i64 x),(9,.int .i64 y),(11,.own 0 g 0 n),(12,.int .i64 i)]∧s=⟨[.arr g 2 true true (vs pv W)],c⟩) ?_ _ _ _ ⟨0,_,_,_,l,rfl,by simp,.start _ _,rfl,rfl⟩
   rintro _ _ _ ⟨i,c,g,n,W,rfl,rfl,hW,rfl,rfl⟩
   refine⟨rfl,?_⟩
   have hWl:=hW.len
   by_cases hlt:i<l.length
   ·have hx:=hW.at hlt
    have n1:nth (vs pv W) (Int.toNat (Nat.cast i))=some (pv (l[i])):=by rw[← hx];exact nVN (by omega)
    (conv=>whnf);repeat' (first|(apply Am;(· exact n1);conv=>whnf)|(refine tPv ?_;conv=>whnf)|(refine kA ?_;conv=>whnf)|(refine Br.mk (fun hc=>?_) fun hc=>?_<;>first|exact hc.elim|conv=>whnf)|(refine kB ?_))
    all_goals first
     |(exfalso;omega)
     |(have hp:=hW.put hlt;rw[WI (by first|exact .inl ‹_› |exact .inr ‹_›)]at hp;exact again.mk ⟨_,by omega,i+1,_,_,_,_,rfl,rfl,hp,rfl,rfl⟩)
     |exact again.mk ⟨_,by omega,i+1,_,_,_,_,rfl,rfl,hW.skip hlt (UZ (by assumption) (by assumption)),rfl,rfl⟩
   ·have he:=hW.all hlt
    (conv=>whnf);repeat' (first  |(refine kA ?_;conv=>whnf)|(refine Br.mk (fun hc=>?_) fun hc=>?_<;>first|exact hc.elim|conv=>whnf)|(refine kB ?_))
    all_goals first
     |(exfalso;omega)
     |(refine ⟨true,?_⟩;rw[TA hWl.symm,he])
theorem AcJ {l m:List (Int×Int)} {b1 b2:Bool} (hl:l.length<2^40) (hm:m.length<2^40):Ar (Ae tab) 9 [.sl b1 (vs pv l),.sl b2 (vs pv m)] (· =.bool (decide (l=m))):=by
 by_cases hlen:l.length=m.length
 ·refine Ad rfl rfl ?_
  (conv=>whnf);repeat' (first  |(refine kA ?_;conv=>whnf)|(refine Br.mk (fun hc=>?_) fun hc=>?_<;>first|exact hc.elim|conv=>whnf)|(refine kB ?_))
  all_goals first|(exfalso;omega)|skip
  refine Ah (fun z env s=>∃(i:Nat),z=l.length-i∧l.take i=m.take i∧env=[(0,.sl b1 (vs pv l)),(1,.sl b2 (vs pv m)),(5,.int .i64 i)]∧s=⟨[],0⟩) ?_ _ _ _ ⟨0,rfl,rfl,rfl,rfl⟩
  rintro _ _ _ ⟨i,rfl,hx,rfl,rfl⟩
  refine⟨rfl,?_⟩
  by_cases hlt:i<l.length
  ·have hb:bin .neq (.flat [.int,.int]) (.agg (List.take 2 (pv l[i]).cells)) (.agg (List.take 2 (pv (m[i]'(by omega))).cells))=some (.bool (!decide (l[i]=m[i]'(by omega)))):=by
        generalize l[i]=p
        generalize m[i]'_=q
        obtain⟨p1,p2⟩:=p
        obtain⟨q1,q2⟩:=q
        by_cases h1:p1=q1
        ·by_cases h2:p2=q2
         ·simp[bin,UF,IK,BX,pv,AV.cells,h1,h2]
         ·have e2:(p2==q2)=false:=by simpa using h2
          simp[bin,UF,IK,BX,pv,AV.cells,h1,h2,e2]
        ·have e1:(p1==q1)=false:=by simpa using h1
         simp[bin,UF,IK,BX,pv,AV.cells,h1,e1]
   by_cases he:l[i]=m[i]'(by omega)
   ·rw[decide_eq_true he]at hb
    (conv=>whnf);repeat' (first|(apply BO hb;conv=>whnf)|(refine kA ?_;conv=>whnf)|(refine Br.mk (fun hc=>?_) fun hc=>?_<;>first|exact hc.elim|conv=>whnf)|(refine kB ?_))
    all_goals first
     |(exfalso;omega)
     |exact again.mk ⟨_,by omega,i+1,rfl,by rw[List.take_succ_eq_append_getElem hlt,List.take_succ_eq_append_getElem (by omega),hx,he],rfl,rfl⟩
   ·rw[decide_eq_false he]at hb
    have hno:¬l=m:=fun e=>he (by subst e;rfl)
    (conv=>whnf);repeat' (first|(apply BO hb;conv=>whnf)|(refine kA ?_;conv=>whnf)|(refine Br.mk (fun hc=>?_) fun hc=>?_<;>first|exact hc.elim|conv=>whnf)|(refine kB ?_))
    all_goals first
     |(exfalso;omega)
     |exact Bf hno
  ·have hyes:l=m:=by rw[List.take_of_length_le (by omega),List.take_of_length_le (by omega)]at hx;exact hx
   (conv=>whnf);repeat' (first  |(refine kA ?_;conv=>whnf)|(refine Br.mk (fun hc=>?_) fun hc=>?_<;>first|exact hc.elim|conv=>whnf)|(refine kB ?_))
   all_goals first
        |(exfalso;omega)
        |exact Ce hyes
 ·have hno:¬l=m:=fun e=>hlen (by rw[e])
  refine Ad rfl rfl ?_
  (conv=>whnf);repeat' (first  |(refine kA ?_;conv=>whnf)|(refine Br.mk (fun hc=>?_) fun hc=>?_<;>first|exact hc.elim|conv=>whnf)|(refine kB ?_))
  all_goals first|(exfalso;omega)|exact Bf hno
def Du (c:Int):Prop:=(97≤c∧c≤122)∨(65≤c∧c≤90)
instance (c:Int):Decidable (Du c):=by unfold Du;infer_instance
theorem X9 {c:Int}:Ar (Ae tab) 67 [.int .u8 c] (· =.bool (decide (Du c))):=by
 refine Ad rfl rfl ?_
 (conv=>whnf);repeat' (first|(refine kA ?_;conv=>whnf)|(refine Br.mk (fun hc=>?_) fun hc=>?_<;>first|exact hc.elim|conv=>whnf)  |(refine kB ?_))
 all_goals first|exact Ce (by unfold Du;omega)|exact Bf (by unfold Du;omega)
theorem Ya {c:Int}:Ar (Ae tab) 104 [.int .u8 c] (· =.bool (decide (Du c))):=by
 refine Ad rfl rfl ?_
 (conv=>whnf);repeat' (first|(refine kA ?_;conv=>whnf)|(refine Br.mk (fun hc=>?_) fun hc=>?_<;>first|exact hc.elim|conv=>whnf)  |(refine kB ?_))
 all_goals first|exact Ce (by unfold Du;omega)|exact Bf (by unfold Du;omega)
def GI (c:Int):Prop:=Du c∨(48≤c∧c≤57)∨c=95
instance (c:Int):Decidable (GI c):=by unfold GI;infer_instance
def isName (s:List UInt8):Prop:=0<s.length∧s.length≤20∧(∀ c,s[0]?=some c→Du c.toNat)∧∀c∈s,GI c.toNat
instance (s:List UInt8):Decidable (isName s):=by unfold isName;infer_instance
theorem Ls {s:List UInt8} (hs:0<s.length) (h:isName s):Du s[0].toNat:=h.2.2.1 _ (List.getElem?_eq_getElem hs)
theorem Td {s:List UInt8} {i:Nat} (hi:i<s.length) (h:isName s):GI s[i].toNat:=h.2.2.2 _ (List.getElem_mem _)
theorem Ael {s:List UInt8} (hs:0<s.length) (h:GI s[0].toNat):∀c∈s.take 1,GI c.toNat:=by
 cases s with
 |nil=>simp at hs
 |cons a l=>simpa using h
theorem name1 {s:List UInt8} (hl:s.length<2^63):Ar (Ae tab) 37 [.str s] (· =.bool (decide (isName s))):=by
 by_cases h0:s.length=0
 ·obtain rfl:s=[]:=List.length_eq_zero_iff.1 h0
  refine Ad rfl rfl ?_
  (conv=>whnf);repeat' (first|(refine kA ?_;conv=>whnf)|(refine Br.mk (fun hc=>?_) fun hc=>?_<;>first|exact hc.elim|conv=>whnf)  |(refine kB ?_))
  all_goals exact Bf (by simp[isName])
 have hs:0<s.length:=by omega
 have hne:s≠[]:=by rintro rfl;simp at h0
 have hz:s[0]?=some s[0]:=List.getElem?_eq_getElem hs
 refine Ad rfl rfl ?_
 (conv=>whnf);repeat' (first|(refine kA ?_;conv=>whnf)|(refine Br.mk (fun hc=>?_) fun hc=>?_<;>first|exact hc.elim|conv=>whnf)|(refine Dk (X9) (fun hc=>?_) (fun hc=>?_)<;>conv=>whnf)|(refine kB ?_))
 all_goals first|exact absurd hc hne|exact Bf (by unfold isName;omega)|exact Bf fun h=>hc (Ls hs h)|skip
 refine Ah (fun m env s'=>∃i:Nat,m=s.length-i∧env=[(0,.str s),(18,.int .i64 s.length),(19,.int .i64 i)]∧s'=⟨[],0⟩∧∀c∈s.take i,GI c.toNat) ?_ _ _ _ ⟨0,rfl,by simp,rfl,by simp⟩
 rintro _ _ _ ⟨i,rfl,rfl,rfl,hx⟩
 refine⟨rfl,?_⟩
 (conv=>whnf);repeat' (first|(refine kA ?_;conv=>whnf)|(refine Br.mk (fun hc=>?_) fun hc=>?_<;>first|exact hc.elim|conv=>whnf)|(refine Dk (X9) (fun hc=>?_) (fun hc=>?_)<;>conv=>whnf)|(refine kB ?_))
 all_goals first
  |exact again.mk ⟨_,by omega,i+1,rfl,rfl,rfl,Bo (by omega) hx (by unfold GI Du at *;omega)⟩
  |(refine Bf fun h=>?_;have:=Td (i:=i) (by omega) h;unfold GI Du at *;omega)
  |(rename_i hc1;exact Ce ⟨hs,by omega,fun c h=>by rw[hz]at h;cases h;assumption,by rw[CZ hc]at hx;exact hx⟩)
theorem name2 {s:List UInt8} (hl:s.length<2^63):Ar (Ae tab) 83 [.str s] (· =.bool (decide (isName s))):=by
 by_cases h0:s.length=0
 ·obtain rfl:s=[]:=List.length_eq_zero_iff.1 h0
  refine Ad rfl rfl ?_
  (conv=>whnf);repeat' (first|(refine kA ?_;conv=>whnf)|(refine Br.mk (fun hc=>?_) fun hc=>?_<;>first|exact hc.elim|conv=>whnf)  |(refine kB ?_))
  all_goals exact Bf (by simp[isName])
 have hs:0<s.length:=by omega
 have hne:s≠[]:=by rintro rfl;simp at h0
 have hz:s[0]?=some s[0]:=List.getElem?_eq_getElem hs
 refine Ad rfl rfl ?_
 (conv=>whnf);repeat' (first|(refine kA ?_;conv=>whnf)|(refine Br.mk (fun hc=>?_) fun hc=>?_<;>first|exact hc.elim|conv=>whnf)|(refine Dk (Ya) (fun hc=>?_) (fun hc=>?_)<;>conv=>whnf)|(refine kB ?_))
 all_goals first|exact absurd hc hne|exact Bf (by unfold isName;omega)|exact Bf fun h=>hc (Ls hs h)|skip
 refine Ah (fun m env s'=>∃i:Nat,m=s.length-i∧env=[(0,.str s),(3,.int .i64 i)]∧s'=⟨[],0⟩∧∀c∈s.take i,GI c.toNat) ?_ _ _ _ ⟨1,rfl,rfl,rfl,Ael hs (Or.inl hc)⟩
 rintro _ _ _ ⟨i,rfl,rfl,rfl,hx⟩
 refine⟨rfl,?_⟩
 (conv=>whnf);repeat' (first|(refine kA ?_;conv=>whnf)|(refine Br.mk (fun hc=>?_) fun hc=>?_<;>first|exact hc.elim|conv=>whnf)|(refine Dk (Ya) (fun hc=>?_) (fun hc=>?_)<;>conv=>whnf)|(refine kB ?_))
 all_goals first
  |exact again.mk ⟨_,by omega,i+1,rfl,rfl,rfl,Bo (by omega) hx (by unfold GI Du at *;omega)⟩
  |(refine Bf fun h=>?_;have:=Td (i:=i) (by omega) h;unfold GI Du at *;omega)
  |(rename_i hc1;exact Ce ⟨hs,by omega,fun c h=>by rw[hz]at h;cases h;assumption,by rw[CZ hc]at hx;exact hx⟩)
theorem Y8 {AP:Nat→Option Ji} {f:Nat} {sp:List AV→Ai→Option (AA×Ai)} {args:List AV} {R:AV→Prop} {v v':AV} {s:Ai} (hf:AP f=some (.ext sp)) (h:sp args ⟨[],0⟩=some (.ok v,s)) (hs:snap s.σ Hg v=some v') (hR:R v'):Ar AP f args R:=
 ⟨v',⟨1,by simp only[Es,run,hf,h];exact hs⟩,hR⟩
theorem ixP {l:List UInt8}:Ar (Ae tab) 136 [.str l,.fn 137 []] (· =.int .i64 (Ja l)):=
 Y8 rfl rfl rfl rfl
theorem N7 {l:List UInt8}:Ja l<0↔∀c∈l,Na c=false:=by
 unfold Ja
 cases h:List.findIdx? Na l with
 |none=>
  refine⟨fun _ c hc=>?_,fun _=>by decide⟩
  have:=List.findIdx?_eq_none_iff.1 h c hc
  simpa using this
 |some i=>
  refine⟨fun h=>?_,fun ha=>?_⟩
  ·simp at h;omega
  ·obtain⟨h1,h2,_⟩:=List.findIdx?_eq_some_iff_getElem.1 h
   rw[ha _ (List.getElem_mem h1)]at h2
   cases h2
def inR (n:Int):Prop:=-1000000000000000≤n∧n≤1000000000000000
instance (n:Int):Decidable (inR n):=by unfold inR;infer_instance
theorem inP {n:Int}:Ar (Ae tab) 134 [.int .i64 n] (· =.bool (decide (inR n))):=by
 refine Ad rfl rfl ?_
 (conv=>whnf);repeat' (first|(refine kA ?_;conv=>whnf)|(refine Br.mk (fun hc=>?_) fun hc=>?_<;>first|exact hc.elim|conv=>whnf)  |(refine kB ?_))
 all_goals first|exact Ce (by unfold inR;omega)|exact Bf (by unfold inR;omega)
theorem Ahg {n:Int}:Ar (Ae tab) 187 [.int .i64 n] (· =.bool (decide (inR n))):=by
 refine Ad rfl rfl ?_
 (conv=>whnf);repeat' (first|(refine kA ?_;conv=>whnf)|(refine Br.mk (fun hc=>?_) fun hc=>?_<;>first|exact hc.elim|conv=>whnf)  |(refine kB ?_))
 all_goals first|exact Ce (by unfold inR;omega)|exact Bf (by unfold inR;omega)
def okS (s:List UInt8):Prop:=s.length≤100∧∀c∈s,Na c=false
instance (s:List UInt8):Decidable (okS s):=by unfold okS;infer_instance
def EN (v:GV):Prop:=v.d=0∧v.l.length=0∧(v.k=1∧v.s=[]∧(v.n=0∨v.n=1)∨v.k=2∧v.s=[]∧inR v.n∨v.k=4∧v.n=0∧okS v.s)
instance (v:GV):Decidable (EN v):=by unfold EN;infer_instance
def Ig (v:GV):Prop:=v.k=1∨v.k=2∨v.k=4
instance (v:GV):Decidable (Ig v):=by unfold Ig;infer_instance
theorem SV {v:GV} (h:EN v):Ig v:=by unfold EN at h;unfold Ig;omega
theorem Ad9 {v:GV} (h:v.k=1) (h1:v.d=0) (h2:v.l.length=0) (h3:v.s=[]) (h4:v.n=0∨v.n=1):EN v:=⟨h1,h2,.inl ⟨h,h3,h4⟩⟩
theorem Aea {v:GV} (h:v.k=2) (h1:v.d=0) (h2:v.l.length=0) (h3:v.s=[]) (h4:inR v.n):EN v:=⟨h1,h2,.inr (.inl ⟨h,h3,h4⟩)⟩
theorem Aeb {v:GV} (h:v.k=4) (h1:v.d=0) (h2:v.l.length=0) (h3:v.n=0) (h4:okS v.s):EN v:=⟨h1,h2,.inr (.inr ⟨h,h3,h4⟩)⟩
theorem Aec {v:GV} (h:EN v) (hk:v.k≠4):v.s=[]:=by
 obtain⟨_,_,h⟩:=h
 rcases h with h|h|h
 ·exact h.2.1
 ·exact h.2.1
 ·exact absurd h.1 hk
theorem Aed {v:GV} (h:EN v) (hk:v.k=1):v.n=0∨v.n=1:=by
 obtain⟨_,_,h⟩:=h;omega
theorem Aee {v:GV} (h:EN v) (hk:v.k=2):inR v.n:=by
 obtain⟨_,_,h⟩:=h
 rcases h with h|h|h<;>first|exact h.2.2|omega
theorem Aa5 {v:GV} (h:EN v) (hk:v.k=4):v.n=0∧okS v.s:=by
 obtain⟨_,_,h⟩:=h
 rcases h with h|h|h<;>first|exact h.2|omega
theorem vld {v:GV} (hv:v.ok) (hk:Ig v) {n:Int}:Ar (Ae tab) 105 [v.av,.int .i64 n] (· =.bool (decide (EN v))):=by
 obtain⟨g1,g2,g3,g4,g5,g6,g7⟩:=hv
 unfold Ln at g4 g5
 unfold Ig at hk
 refine Ad rfl rfl ?_
 (conv=>whnf);repeat' (first|(refine kA ?_;conv=>whnf)|(refine Br.mk (fun hc=>?_) fun hc=>?_<;>first|exact hc.elim|conv=>whnf)|(refine Dk (inP (n:=v.n)) (fun hr=>?_) (fun hr=>?_)<;>conv=>whnf)|(refine Aa (ixP (l:=v.s)) ?_;rintro _ rfl;conv=>whnf)|(refine kB ?_))
 all_goals first
  |exact Bf (fun h=>by have:=h.2.1;omega)
  |(refine Ce ?_;clear g7 g6;unfold EN okS;rw[← N7];first|(simp_all;done)|(simp_all;omega))
  |(refine Bf ?_;clear g7 g6;unfold EN okS;rw[← N7];first|(simp_all;done)|(simp_all;omega))
theorem AhA {v:GV} (hv:v.ok) (hk:Ig v):Ar (Ae tab) 89 [v.av] (· =.bool (decide (EN v))):=by
 refine Ad rfl rfl ?_
 (conv=>whnf);repeat' (first|(refine kA ?_;conv=>whnf)|(refine Br.mk (fun hc=>?_) fun hc=>?_<;>first|exact hc.elim|conv=>whnf)|(refine Dk (vld (v:=v) hv hk) (fun hr=>?_) (fun hr=>?_)<;>conv=>whnf)|(refine kB ?_))
 all_goals first|exact Ce (by assumption)|exact Bf (by assumption)
theorem Adh {v:GV} (hv:v.ok):Ar (Ae tab) 63 [v.av] (· =.bool (decide (EN v))):=by
 refine Ad rfl rfl ?_
 (conv=>whnf);repeat' (first|(refine kA ?_;conv=>whnf)|(refine Br.mk (fun hc=>?_) fun hc=>?_<;>first|exact hc.elim|conv=>whnf)|(refine Dk (AhA (v:=v) hv (by unfold Ig;omega)) (fun hr=>?_) (fun hr=>?_)<;>conv=>whnf)|(refine kB ?_))
 all_goals first|exact Ce (by assumption)|exact Bf (by assumption)|exact Bf fun h=>absurd (SV h) (by unfold Ig;omega)
end AI
end Go.Proofs.YtjjhejbffgaabaaGreatDoor
