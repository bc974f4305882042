/- Slices within reach; clones of values, properties, strings; looking up a node of any graph. Levels and distances between two nodes: the program's and the reference's. The distance between two nodes: the program's and the reference's. -/
import Derived.Test.YthjeehjphekjmaaGreatDoorRMac
import Derived.Test.YthjeehjphekjmaaGreatDoorBMaa
import Derived.Test.YthjeehjphekjmaaGreatDoorRMaf
set_option linter.unusedVariables false
set_option maxRecDepth 4000
namespace Go.Proofs.YthjeehjphekjmaaGreatDoor
namespace AI
theorem Qg {n:Nat} (h:n≤reachBytes):n≤2 ^ 47:=by unfold reachBytes at h;omega
theorem Abi:Tryz.prog.bytesOf 45=64:=by kernel_rfl
theorem Adx:Tryz.prog.bytesOf 146=80:=by kernel_rfl
theorem ZN:Tryz.prog.bytesOf 9=16:=by kernel_rfl
def Fv:Nat→GV→Prop
 |0,_=>False
 |d+1,v=>v.l.length*64≤2 ^ 47∧∀x∈v.l,∃u:GV,x=u.av∧u.ok∧Fv d u
theorem AbR:∀{d e:Nat} {v:GV},d≤e→Fv d v→Fv e v
 |0,_,_,_,h=>absurd h id
 |d+1,0,_,h,_=>by omega
 |d+1,e+1,v,h,hd=>⟨hd.1,fun x hx=>by
  obtain⟨u,e1,h1,h2⟩:=hd.2 x hx
  exact⟨u,e1,h1,AbR (by omega) h2⟩⟩
theorem Tn:∀(d:Nat) {cs:List AV},BZ Tryz.prog d 45 cs→∃v:GV,cs=[.int .i64 v.k,.int .i64 v.n,.int .i64 v.d,.str v.s,.sl v.nn v.l]∧v.ok∧Fv d v:=by
 intro d
 induction d using Nat.strongRecOn with
 |ind d ih=>
  intro cs h
  obtain⟨v,rfl,hv⟩:=Jw h
  refine⟨v,rfl,hv,?_⟩
  obtain⟨d',rfl,g1,g2⟩:=C9 Tryz.underlying45 h
  simp only[List.forall_mem_cons]at g2
  obtain⟨_,_,_,_,f5,_⟩:=g2
  simp only[TF,List.drop_zero,List.drop_succ_cons,List.take_succ_cons,List.take_zero]at f5
  have hs:=Qg (Jh Tryz.underlying42 f5)
  rw[Abi]at hs
  obtain⟨d'',rfl,nl,xs,e5,h5,h6,h7⟩:=Jy Tryz.underlying42 f5
  cases e5
  refine⟨hs,fun x hx=>?_⟩
  obtain⟨cs',rfl,k⟩:=Dx Tryz.underlying45 (h7 x hx)
  obtain⟨u,rfl,k1,k2⟩:=ih d'' (by omega) k
  exact⟨u,rfl,k1,AbR (by omega) k2⟩
def Abj (p:GP):Prop:=∃d,Fv d p.v
def Ady (n:GN):Prop:=n.labels.length*16≤2 ^ 47∧n.props.length*80≤2 ^ 47∧∀p∈n.props,Abj p
def U8 (g:GG):Prop:=∀n∈g.nodes,Ady n
theorem V7 {d:Nat} {a:AV} (h:like Tryz.prog d 146 a):∃v:GP,a=v.av∧v.ok∧Abj v:=by
 obtain⟨cs,rfl,h0⟩:=Dx Tryz.underlying146 h
 obtain⟨d',rfl,g1,g2⟩:=C9 Tryz.underlying146 h0
 rw[Yb]at g1
 obtain⟨a,b,c,e,f,g,rfl⟩:=AbZ g1
 clear g1
 simp only[List.forall_mem_cons]at g2
 obtain⟨f1,f2,_⟩:=g2
 simp only[Lh,RG,List.drop_zero,List.drop_succ_cons,List.take_succ_cons,List.take_zero]at f1 f2
 obtain⟨s,e1,h1⟩:=Oq f1
 obtain⟨v,e2,h2,h3⟩:=Tn _ f2
 cases e1;cases e2
 exact⟨⟨s,v⟩,rfl,⟨h1,h2⟩,_,h3⟩
theorem V8 {d:Nat} {a:AV} (h:like Tryz.prog d 52 a):∃v:GN,a=v.av∧v.ok∧Ady v:=by
 obtain⟨cs,rfl,h0⟩:=Dx Tryz.underlying52 h
 obtain⟨d',rfl,g1,g2⟩:=C9 Tryz.underlying52 h0
 rw[AbX]at g1
 obtain⟨a,b,c,rfl⟩:=AfP g1
 clear g1
 simp only[List.forall_mem_cons]at g2
 obtain⟨f1,f2,f3,_⟩:=g2
 simp only[TD,QF,Wn,List.drop_zero,List.drop_succ_cons,List.take_succ_cons,List.take_zero]at f1 f2 f3
 obtain⟨s,e1,h1⟩:=D7 f1
 obtain⟨ln,L,e2,h2,h2a,h2b⟩:=Gz (f:=.str) (Q:=Ln) Tryz.underlying26 (fun d x h=>TG h) f2
 obtain⟨pn,P,e3,h3,h3a,h3b⟩:=Gz (f:=GP.av) (Q:=fun p=>p.ok∧Abj p) Tryz.underlying50 (fun d x h=>V7 h) f3
 cases e1;cases e2;cases e3
 have w2:=Qg (Jh Tryz.underlying26 f2)
 have w3:=Qg (Jh Tryz.underlying50 f3)
 rw[ZN,lV]at w2
 rw[Adx,lV]at w3
 exact⟨⟨s,ln,L,pn,P⟩,rfl,⟨h1,h2a,h2,h2b,h3a,h3,fun p hp=>(h3b p hp).1⟩,w2,w3,fun p hp=>(h3b p hp).2⟩
theorem JQ {a:AV} (h:Like Tryz.prog 25 a):∃v:GG,a=v.av∧v.ok∧U8 v:=by
 obtain⟨d,h⟩:=h
 obtain⟨cs,rfl,h0⟩:=Dx Tryz.underlying25 h
 obtain⟨d',rfl,g1,g2⟩:=C9 Tryz.underlying25 h0
 rw[Aaj]at g1
 obtain⟨a,b,c,e,rfl⟩:=AfQ g1
 clear g1
 simp only[List.forall_mem_cons]at g2
 obtain⟨f1,f2,f3,f4,_⟩:=g2
 simp only[TD,Aah,Aai,List.drop_zero,List.drop_succ_cons,List.take_succ_cons,List.take_zero]at f1 f2 f3 f4
 obtain⟨nn,N,e1,h1,h1a,h1b⟩:=Gz (f:=GN.av) (Q:=fun n=>n.ok∧Ady n) Tryz.underlying22 (fun d x h=>V8 h) f1
 obtain⟨en,E,e2,h2,h2a,h2b⟩:=Gz (f:=GE.av) (Q:=GE.ok) Tryz.underlying23 (fun d x h=>Xo h) f2
 obtain⟨m,e3,h3⟩:=D7 f3
 obtain⟨k,e4,h4⟩:=D7 f4
 cases e1;cases e2;cases e3;cases e4
 exact⟨⟨nn,N,en,E,m,k⟩,rfl,⟨h1a,h1,fun n hn=>(h1b n hn).1,h2a,h2,h2b,h3,h4⟩,fun n hn=>(h1b n hn).2⟩
theorem J3 {g es:Nat} {ys:List AV} {bytes:Nat} {K:Nat→Bool→Bool→List AV→Prop} (hs:Bq es ys) (hr:ys.length*bytes≤2 ^ 47) (h:K ys.length true true ys):
 LW g g es es 0 true true true [] ys bytes K:=by
 refine⟨⟨rfl,rfl,by simp,hs,?_⟩,?_⟩
 ·rw[Nat.zero_add];exact hr
 ·rw[Nat.zero_add];exact h
theorem ZO:AQ (Ac tab) 74 [.sl false []] ⟨[],0⟩ fun out _=>out=.ok (.sl false []):=by
 refine Ar rfl rfl ?_
 (conv=>whnf);repeat' (first  |(refine kA ?_;conv=>whnf)|(refine Br.mk (fun hc=>?_) fun hc=>?_<;>first|exact hc.elim|conv=>whnf)|(refine kB ?_))
 rfl
theorem Abk {l:List AV} (hs:Bq 5 l) (hl:l.length*64≤2 ^ 47):AQ (Ac tab) 74 [.sl true l] ⟨[],0⟩ fun out s'=>∃o g,out=.ok (.own o g 0 l.length)∧nth s'.σ o=some (.arr g 5 true true l):=by
 refine Ar rfl rfl ?_
 (conv=>whnf);repeat' (first  |(refine kA ?_;conv=>whnf)|(refine Br.mk (fun hc=>?_) fun hc=>?_<;>first|exact hc.elim|conv=>whnf)|(refine kB ?_))
 refine J3 hs hl ?_
 (conv=>whnf);repeat' (first  |(refine kA ?_;conv=>whnf)|(refine Br.mk (fun hc=>?_) fun hc=>?_<;>first|exact hc.elim|conv=>whnf)|(refine kB ?_))
 exact⟨_,_,rfl,rfl⟩
theorem Rx {l:List AV} {z:Nat} {x:AV} (h:nth l z=some x):l.set z x=l:=by
 rw[AZ]at h
 obtain⟨hz,rfl⟩:=List.getElem?_eq_some_iff.1 h
 exact List.set_getElem_self hz
theorem Xi (l:List AV):sub l 0 l.length=l:=by unfold sub;exact List.take_of_length_le (by simp)
theorem Abl {d:Nat} {l:List AV} (h:∀x∈l,∃u:GV,x=u.av∧u.ok∧Fv d u):Bq 5 l:=by
 intro x hx
 obtain⟨u,rfl,_⟩:=h x hx
 rfl
theorem V9 {d:Nat} {g:GV} (hg:g.ok) (h2:g.l.length*64≤2 ^ 47) (h3:∀x∈g.l,∃u:GV,x=u.av∧u.ok∧Fv d u) (ih:∀{g:GV},g.ok→Fv d g→Au (Ac tab) 142 [g.av] (· =g.av)):
 Au (Ac tab) 142 [g.av] (· =g.av):=by
 obtain⟨g1,g2,g3,g4,g5,g6,g7⟩:=hg
 obtain⟨k,n,dd,s,nn,l⟩:=g
 simp only at*
 cases nn with
 |false=>
  obtain rfl:=g6 rfl
  refine Af rfl rfl ?_
  (conv=>whnf);repeat' (first  |(refine kA ?_;conv=>whnf)|(refine Br.mk (fun hc=>?_) fun hc=>?_<;>first|exact hc.elim|conv=>whnf)|(refine kB ?_))
  refine Ui rfl ZO ?_
  (conv=>whnf);repeat' (first  |(refine kA ?_;conv=>whnf)|(refine Br.mk (fun hc=>?_) fun hc=>?_<;>first|exact hc.elim|conv=>whnf)|(refine kB ?_))
  refine Iz ?_ rfl
  (conv=>whnf);repeat' (first  |(refine kA ?_;conv=>whnf)|(refine Br.mk (fun hc=>?_) fun hc=>?_<;>first|exact hc.elim|conv=>whnf)|(refine kB ?_))
  rfl
 |true=>
  refine Af rfl rfl ?_
  (conv=>whnf);repeat' (first  |(refine kA ?_;conv=>whnf)|(refine Br.mk (fun hc=>?_) fun hc=>?_<;>first|exact hc.elim|conv=>whnf)|(refine kB ?_))
  refine Aep rfl (Abk (Abl h3) h2) ?_
  (conv=>whnf);repeat' (first  |(refine kA ?_;conv=>whnf)|(refine Br.mk (fun hc=>?_) fun hc=>?_<;>first|exact hc.elim|conv=>whnf)|(refine kB ?_))
  refine Ae (fun m env st=>∃i:Nat,m=l.length-i∧env=[(1,.ref 0 0 0 0),(2,.ref 1 1 0 0),(10,.int .i64 l.length),(11,.int .i64 i)]∧st=⟨[.arr 0 5 true false [.agg [.int .i64 k,.int .i64 n,.int .i64 dd,.str s,.own 2 2 0 l.length]],.arr 1 5 true true [.agg [.int .i64 0,.int .i64 0,.int .i64 0,.str [],.sl false []]],.arr 2 5 true true l],3⟩) ?_ _ _ _ ⟨0,rfl,rfl,rfl⟩
  rintro _ _ _ ⟨i,rfl,rfl,rfl⟩
  refine⟨rfl,?_⟩
  unfold Ln at g5
  by_cases hlt:i<l.length
  ·obtain⟨u,e,hu,hd⟩:=h3 _ (List.getElem_mem hlt)
   have hn:nth l (Int.toNat (Nat.cast i))=some u.av:=by rw[← e];exact nRN hlt
   (conv=>whnf);repeat' (first|(apply AU;(· exact hn);conv=>whnf)|(refine Aa (ih hu hd) ?_;rintro _ rfl;conv=>whnf)|(apply Bh;(· exact Rx (x:=u.av) hn);conv=>whnf)|(refine kA ?_;conv=>whnf)|(refine Br.mk (fun hc=>?_) fun hc=>?_<;>first|exact hc.elim|conv=>whnf)|(refine kB ?_))
   all_goals first
        |(exfalso;omega)
        |exact again.mk ⟨_,by omega,i+1,rfl,rfl,rfl⟩
  ·(conv=>whnf);repeat' (first  |(refine kA ?_;conv=>whnf)|(refine Br.mk (fun hc=>?_) fun hc=>?_<;>first|exact hc.elim|conv=>whnf)|(refine kB ?_))
   all_goals first
        |(exfalso;omega)
        |(rw [Xi];rfl)
theorem Ry:∀(d:Nat) {g:GV},g.ok→Fv d g→Au (Ac tab) 142 [g.av] (· =g.av)
 |0,_,_,h=>by cases h
 |d+1,g,hg,h=>V9 hg h.1 h.2 (Ry d)
theorem Abm {l:List (List UInt8)} {nn:Bool} (hl:l.length*16≤2 ^ 47) (hn:nn=false→l=[]):Au (Ac tab) 95 [.sl nn (vs .str l)] (· =.sl nn (vs .str l)):=by
 cases nn with
 |false=>
  obtain rfl:=hn rfl
  refine Af rfl rfl ?_
  (conv=>whnf);repeat' (first  |(refine kA ?_;conv=>whnf)|(refine Br.mk (fun hc=>?_) fun hc=>?_<;>first|exact hc.elim|conv=>whnf)|(refine kB ?_))
  rfl
 |true=>
  refine Af rfl rfl ?_
  (conv=>whnf);repeat' (first  |(refine kA ?_;conv=>whnf)|(refine Br.mk (fun hc=>?_) fun hc=>?_<;>first|exact hc.elim|conv=>whnf)|(refine kB ?_))
  refine J3 (Hq (f:=.str) (fun _=>rfl) l) (by rw[lV];omega) ?_
  (conv=>whnf);repeat' (first  |(refine kA ?_;conv=>whnf)|(refine Br.mk (fun hc=>?_) fun hc=>?_<;>first|exact hc.elim|conv=>whnf)|(refine kB ?_))
  rw[lV,uV]
theorem ZP:AQ (Ac tab) 141 [.sl false []] ⟨[],0⟩ fun out _=>out=.ok (.sl false []):=by
 refine Ar rfl rfl ?_
 (conv=>whnf);repeat' (first  |(refine kA ?_;conv=>whnf)|(refine Br.mk (fun hc=>?_) fun hc=>?_<;>first|exact hc.elim|conv=>whnf)|(refine kB ?_))
 rfl
theorem Abn {l:List GP} (hl:l.length*80≤2 ^ 47):AQ (Ac tab) 141 [.sl true (vs GP.av l)] ⟨[],0⟩ fun out s'=>∃o g,out=.ok (.own o g 0 (vs GP.av l).length)∧nth s'.σ o=some (.arr g 6 true true (vs GP.av l)):=by
 refine Ar rfl rfl ?_
 (conv=>whnf);repeat' (first  |(refine kA ?_;conv=>whnf)|(refine Br.mk (fun hc=>?_) fun hc=>?_<;>first|exact hc.elim|conv=>whnf)|(refine kB ?_))
 refine J3 (Hq (f:=GP.av) (fun _=>rfl) l) (by rw[lV];omega) ?_
 (conv=>whnf);repeat' (first  |(refine kA ?_;conv=>whnf)|(refine Br.mk (fun hc=>?_) fun hc=>?_<;>first|exact hc.elim|conv=>whnf)|(refine kB ?_))
 exact⟨_,_,rfl,rfl⟩
theorem ZQ {ps:List GP} {nn:Bool} (hl:ps.length*80≤2 ^ 47) (hn:nn=false→ps=[]) (hok:∀p∈ps,p.ok) (hL:∀p∈ps,Abj p):Au (Ac tab) 96 [.sl nn (vs GP.av ps)] (· =.sl nn (vs GP.av ps)):=by
 cases nn with
 |false=>
  obtain rfl:=hn rfl
  refine Af rfl rfl ?_
  (conv=>whnf);repeat' (first  |(refine kA ?_;conv=>whnf)|(refine Br.mk (fun hc=>?_) fun hc=>?_<;>first|exact hc.elim|conv=>whnf)|(refine kB ?_))
  refine Ui rfl ZP ?_
  (conv=>whnf);repeat' (first  |(refine kA ?_;conv=>whnf)|(refine Br.mk (fun hc=>?_) fun hc=>?_<;>first|exact hc.elim|conv=>whnf)|(refine kB ?_))
  refine Iz ?_ rfl
  (conv=>whnf);repeat' (first  |(refine kA ?_;conv=>whnf)|(refine Br.mk (fun hc=>?_) fun hc=>?_<;>first|exact hc.elim|conv=>whnf)|(refine kB ?_))
  rfl
 |true=>
  refine Af rfl rfl ?_
  (conv=>whnf);repeat' (first  |(refine kA ?_;conv=>whnf)|(refine Br.mk (fun hc=>?_) fun hc=>?_<;>first|exact hc.elim|conv=>whnf)|(refine kB ?_))
  refine Aep rfl (Abn hl) ?_
  (conv=>whnf);repeat' (first  |(refine kA ?_;conv=>whnf)|(refine Br.mk (fun hc=>?_) fun hc=>?_<;>first|exact hc.elim|conv=>whnf)|(refine kB ?_))
  refine Ae (fun m env st=>∃i:Nat,m=ps.length-i∧env=[(3,.own 0 0 0 (vs GP.av ps).length),(8,.int .i64 (vs GP.av ps).length),(9,.int .i64 i)]∧st=⟨[.arr 0 6 true true (vs GP.av ps)],1⟩) ?_ _ _ _ ⟨0,rfl,rfl,rfl⟩
  rintro _ _ _ ⟨i,rfl,rfl,rfl⟩
  refine⟨rfl,?_⟩
  have hll:(vs GP.av ps).length=ps.length:=lV _
  by_cases hlt:i<ps.length
  ·obtain⟨d,hd⟩:=hL _ (List.getElem_mem hlt)
   have hv:=(hok _ (List.getElem_mem hlt)).2
   (conv=>whnf);repeat' (first|(refine Aa (Ry d (g:=ps[i].v) hv hd) ?_;rintro _ rfl;conv=>whnf)|(apply Bh;(· exact Rx (x:=(ps[i]).av) (nVN (by omega)));conv=>whnf)|(refine kA ?_;conv=>whnf)|(refine Br.mk (fun hc=>?_) fun hc=>?_<;>first|exact hc.elim|conv=>whnf)|(refine kB ?_))
   all_goals first
        |(exfalso;omega)
        |exact again.mk ⟨_,by omega,i+1,rfl,rfl,rfl⟩
  ·(conv=>whnf);repeat' (first  |(refine kA ?_;conv=>whnf)|(refine Br.mk (fun hc=>?_) fun hc=>?_<;>first|exact hc.elim|conv=>whnf)|(refine kB ?_))
   all_goals first
        |(exfalso;omega)
        |(rw [Xi];done)
theorem AdP {g:GG} (hg:g.ok) (hf:U8 g) (hl:g.nodes.length<2^62) {id:Int}:Au (Ac tab) 63 [g.av,.int .i64 id] (fun v=>∃n:GN,v=.CO [n.av,.bool (decide (id∈g.nodes.map GN.id))]):=by
 refine Af rfl rfl ?_
 (conv=>whnf);repeat' (first  |(refine kA ?_;conv=>whnf)|(refine Br.mk (fun hc=>?_) fun hc=>?_<;>first|exact hc.elim|conv=>whnf)|(refine kB ?_))
 refine Ae (fun m env s=>∃i c:Nat,m=g.nodes.length-i∧(∀ x∈g.nodes.take i,x.id≠id)∧env=[(1,.int .i64 id),(4,.ref 1 1 0 0),(9,.sl g.nn (vs GN.av g.nodes)),(10,.int .i64 g.nodes.length),(11,.int .i64 i)]∧s=⟨[.arr 0 4 true true [g.av],.arr 1 3 true true [.agg [.int .i64 0,.sl false [],.sl false []]]],c⟩) ?_ _ _ _ ⟨0,_,rfl,by simp,by first|rfl|(rw [← lV (f:=GN.av) g.nodes];rfl),rfl⟩
 rintro _ _ _ ⟨i,c,rfl,hx,rfl,rfl⟩
 refine⟨rfl,?_⟩
 by_cases hlt:i<g.nodes.length
 ·have hm:=List.getElem_mem hlt
  obtain⟨_,_,o1,_,_,o2,o3⟩:=hg.2.2.1 _ hm
  obtain⟨w1,w2,w3⟩:=hf _ hm
  by_cases he:(g.nodes[i]).id=id
  ·have hin:id∈g.nodes.map GN.id:=List.mem_map.2 ⟨_,hm,he⟩
   rw[decide_eq_true hin]
   (conv=>whnf);repeat' (first|((first|refine Aa (Abm (l:=g.nodes[i].labels) w1 o1) ?_|refine Aa (ZQ (ps:=g.nodes[i].props) w2 o2 o3 w3) ?_);rintro _ rfl;conv=>whnf)|(refine kA ?_;conv=>whnf)|(refine Br.mk (fun hc=>?_) fun hc=>?_<;>first|exact hc.elim|conv=>whnf)|(refine kB ?_))
   all_goals first
        |(exfalso;omega)
        |exact⟨⟨id,_,_,_,_⟩,rfl⟩
  ·(conv=>whnf);repeat' (first  |(refine kA ?_;conv=>whnf)|(refine Br.mk (fun hc=>?_) fun hc=>?_<;>first|exact hc.elim|conv=>whnf)|(refine kB ?_))
   all_goals first
        |(exfalso;omega)
        |exact again.mk ⟨_,by omega,i+1,_,rfl,fun x hx'=>by
          rw[List.take_succ_eq_append_getElem hlt,List.mem_append,List.mem_singleton]at hx'
          rcases hx' with k|k
          ·exact hx x k
          ·subst k;exact he,rfl,rfl⟩
 ·rw[List.take_of_length_le (by omega)]at hx
  have hin:¬id∈g.nodes.map GN.id:=fun k=>by obtain⟨n,hn,e⟩:=List.mem_map.1 k;exact hx n hn e
  rw[decide_eq_false hin]
  (conv=>whnf);repeat' (first  |(refine kA ?_;conv=>whnf)|(refine Br.mk (fun hc=>?_) fun hc=>?_<;>first|exact hc.elim|conv=>whnf)|(refine kB ?_))
  all_goals first
   |(exfalso;omega)
   |exact⟨⟨0,false,[],false,[]⟩,rfl⟩
def Ll (E:List GE):List Int:=E.flatMap fun e=>[e.fr,e.to]
theorem GX:∀{E:List GE},(Ll E).length=2*E.length
 |[]=>rfl
 |e::E=>by
  have:=@GX E
  unfold Ll at*
  simp only[List.flatMap_cons,List.length_append,List.length_cons,List.length_nil,this]
  omega
theorem GY {types:List (List UInt8)} {dir:Int} {E:List GE} {a x:Int} (h:x∈CY types dir E a):x∈Ll E:=by
 obtain⟨e,he,_,h⟩:=IJ.1 h
 refine List.mem_flatMap.2 ⟨e,he,?_⟩
 rcases h with h|h
 ·rw[← h.2.2];simp
 ·rw[← h.2.2];simp
theorem Ot {types:List (List UInt8)} {dir:Int} {E:List GE} {a:Int}:∀k,(Ea (CY types dir E) a k).length≤1+2*E.length
 |0=>by simp[Ea]
 |k+1=>by
  have:=Lm (Aak (CY types dir E) a (k+1)) (U:=Ll E) fun x hx=>by
   obtain⟨y,_,h⟩:=(Ih _).1 hx
   exact GY h
  rw[GX]at this
  omega
set_option maxHeartbeats 1000000 in
theorem Yc {g:GG} (hg:g.ok) (hE:g.edges.length≤100) {types:List (List UInt8)} {tn:Bool} (ht:types.length<2^63) {dir:Int} {l:List Int} {nn:Bool} (hl:l.length≤1000):
 Au (Ac tab) 33 [g.av,.sl nn (vi l),.sl tn (vs .str types),.int .i64 dir] (fun v=>∃b,v=.sl b (vi (nextL (CY types dir g.edges) l))):=by
 refine Af rfl rfl ?_
 (conv=>whnf);repeat' (first  |(refine kA ?_;conv=>whnf)|(refine Br.mk (fun hc=>?_) fun hc=>?_<;>first|exact hc.elim|conv=>whnf)|(refine kB ?_))
 refine Ae (fun m env s=>∃(i c:Nat) (fo:Bool) (O:List Int),m=l.length-i∧i≤l.length∧Inc O∧(∀ x,x∈O↔x∈(l.take i).flatMap (CY types dir g.edges))∧env=[(1,.sl nn (vi l)),(2,.sl tn (vs .str types)),(3,.int .i64 dir),(4,.ref 0 0 0 0),(9,.sl fo (vi O)),(10,.int .i64 i)]∧s=⟨[.arr 0 4 true true [g.av]],c⟩) ?_ _ _ _ ⟨0,_,false,[],rfl,by omega,List.Pairwise.nil,by simp,rfl,rfl⟩
 rintro _ _ _ ⟨i,c,fo,O,rfl,hi,hI,hO,rfl,rfl⟩
 refine⟨rfl,?_⟩
 by_cases hlt:i<l.length
 ·have hs:=TJ (f:=CY types dir g.edges) hlt
  obtain⟨_,⟨wn,W,rfl,pW,sW⟩,hp⟩:=(U7 (g:=g) hg hE (types:=types) (tn:=tn) ht (id:=l[i]) (dir:=dir)).Oj
  have hWm:∀x,x∈W.map (·.to)↔x∈CY types dir g.edges l[i]:=fun x=>by unfold CY;exact(pW.map _).mem_iff
  have hWl:W.length≤100:=by
   have h1:=pW.length_eq
   have h2:=@Ii types l[i] dir g.edges
   omega
  (conv=>whnf);repeat' (first|(refine Aa hp ?_;rintro _ rfl;conv=>whnf)|(refine kA ?_;conv=>whnf)|(refine Br.mk (fun hc=>?_) fun hc=>?_<;>first|exact hc.elim|conv=>whnf)|(refine kB ?_))
  all_goals first
   |(exfalso;omega)
   |skip
  refine Ae (fun m env s=>∃(j c:Nat) (fo:Bool) (R:List Int),m=W.length-j∧j≤W.length∧Inc R∧(∀ x,x∈R↔x∈O∨x∈(W.take j).map (·.to))∧env=[(1,.sl nn (vi l)),(2,.sl tn (vs .str types)),(3,.int .i64 dir),(4,.ref 0 0 0 0),(9,.sl fo (vi R)),(10,.int .i64 i),(11,.sl wn (vs Bc.av W)),(12,.int .i64 j)]∧s=⟨[.arr 0 4 true true [g.av]],c⟩) ?_ _ _ _ ⟨0,_,fo,O,rfl,by omega,hI,by simp,rfl,rfl⟩
  rintro _ _ _ ⟨j,c,fo,R,rfl,hj,hI,hR,rfl,rfl⟩
  refine⟨rfl,?_⟩
  by_cases hjl:j<W.length
  ·have hms:=KA (f:=fun a:Bc=>a.to) hjl
   have hRl:R.length≤200:=by
        have:=Lm hI (U:=Ll g.edges) fun x hx=>by
         rcases(hR x).1 hx with k|k
         ·obtain⟨y,_,h⟩:=List.mem_flatMap.1 ((hO x).1 k)
          exact GY h
         ·exact GY ((hWm x).1 ((List.take_subset j W |> List.map_subset _) k))
        rw[GX]at this
        omega
   obtain⟨_,⟨b,rfl⟩,hw⟩:=(Aal (l:=R) (x:=(W[j]).to) (nn:=fo) (by omega) hI).Oj
   (conv=>whnf);repeat' (first|(refine Aa hw ?_;rintro _ rfl;conv=>whnf)|(refine kA ?_;conv=>whnf)|(refine Br.mk (fun hc=>?_) fun hc=>?_<;>first|exact hc.elim|conv=>whnf)|(refine kB ?_))
   all_goals first
        |(exfalso;omega)
        |exact again.mk ⟨_,by omega,j+1,_,_,Gj (W[j]).to R,rfl,by omega,OJ hI,fun x=>by
          rw[Lp,hR,hms,List.mem_append,List.mem_singleton]
          constructor
          ·rintro(k|k|k)
           ·exact .inr (.inr k)
           ·exact .inl k
           ·exact .inr (.inl k)
          ·rintro(k|k|k)
           ·exact .inr (.inl k)
           ·exact .inr (.inr k)
           ·exact .inl k,rfl,rfl⟩
  ·rw[List.take_of_length_le (by omega)]at hR
   (conv=>whnf);repeat' (first  |(refine kA ?_;conv=>whnf)|(refine Br.mk (fun hc=>?_) fun hc=>?_<;>first|exact hc.elim|conv=>whnf)|(refine kB ?_))
   all_goals first
        |(exfalso;omega)
        |exact again.mk ⟨_,by omega,i+1,_,_,R,rfl,by omega,hI,fun x=>by rw[hR,hO,hs,List.mem_append,hWm],rfl,rfl⟩
 ·rw[List.take_of_length_le (by omega)]at hO
  have e:nextL (CY types dir g.edges) l=O:=(OL hI hO).symm
  (conv=>whnf);repeat' (first  |(refine kA ?_;conv=>whnf)|(refine Br.mk (fun hc=>?_) fun hc=>?_<;>first|exact hc.elim|conv=>whnf)|(refine kB ?_))
  all_goals first
   |(exfalso;omega)
   |exact⟨fo,by rw[e];rfl⟩
def Qo (p:Bool×List Int):AV:=.sl p.1 (vi p.2)
theorem Wq (x:Bool×List Int):(Qo x).cells.length=1:=rfl
def Ij (nb:Int→List Int) (a:Int) (n:Nat) (L:List (Bool×List Int)):Prop:=L.map (·.2)=(List.range n).map (Ea nb a)
theorem Ij.len {nb:Int→List Int} {a:Int} {n:Nat} {L:List (Bool×List Int)} (h:Ij nb a n L):L.length=n:=by
 have:=congrArg List.length h;simpa using this
theorem Ij.at {nb:Int→List Int} {a:Int} {n:Nat} {L:List (Bool×List Int)} (h:Ij nb a n L) {i:Nat} (hi:i<L.length):(L[i]).2=Ea nb a i:=by
 have h1:(L.map (·.2))[i]?=((List.range n).map (Ea nb a))[i]?:=by rw[h]
 have hn:=h.len
 simp[hi]at h1
 rw[List.getElem?_eq_getElem (by simp;omega)]at h1
 simpa using h1
theorem Ij.more {nb:Int→List Int} {a:Int} {n:Nat} {L:List (Bool×List Int)} (h:Ij nb a n L) (b:Bool):Ij nb a (n+1) (L++[(b,Ea nb a n)]):=by
 unfold Ij at*
 rw[List.map_append,h,List.range_succ,List.map_append]
 rfl
set_option maxHeartbeats 1000000 in
theorem Ws {g:GG} (hg:g.ok) (hE:g.edges.length≤100) {types:List (List UInt8)} {tn:Bool} (ht:types.length<2^63) {dir a:Int} {k:Nat} (hk:k≤100):
 Au (Ac tab) 31 [Xp g tn types dir,.int .i64 a,.int .i64 k] (fun v=>∃L,v=.sl true (vs Qo L)∧Ij (CY types dir g.edges) a (k+1) L):=by
 refine Af rfl rfl ?_
 (conv=>whnf);repeat' (first  |(refine kA ?_;conv=>whnf)|(refine Br.mk (fun hc=>?_) fun hc=>?_<;>first|exact hc.elim|conv=>whnf)|(refine kB ?_))
 refine Ae (fun m env s=>∃(i go c n:Nat) (L:List (Bool×List Int)),m=k-i∧i≤k∧n=i+1∧Ij (CY types dir g.edges) a (i+1) L∧env=[(3,.ref 0 0 0 0),(7,.own 1 go 0 n),(12,.int .i64 k),(13,.int .i64 i)]∧s=⟨[.arr 0 6 true true [Xp g tn types dir],.arr go 1 true true (vs Qo L)],c⟩) ?_ _ _ _ ⟨0,_,_,_,[(true,[a])],rfl,by omega,rfl,rfl,rfl,rfl⟩
 rintro _ _ _ ⟨i,go,c,n,L,rfl,hi,rfl,hL,rfl,rfl⟩
 refine⟨rfl,?_⟩
 have hl:=hL.len
 by_cases hlt:i<k
 ·have hat:=hL.at (i:=i) (by omega)
  have hlen:=@Ot types dir g.edges a i
  obtain⟨_,⟨b,rfl⟩,hp⟩:=(Abu (g:=g) hg hE (types:=types) (tn:=tn) ht (dir:=dir) (l:=(L[i]'(by omega)).2) (nn:=(L[i]'(by omega)).1) (by rw[hat];omega)).Oj
  rw[hat]at hp
  have e:Qo (L[i]'(by omega))=.sl (L[i]'(by omega)).1 (vi (Ea (CY types dir g.edges) a i)):=by unfold Qo;rw[hat]
  have hn:nth (vs Qo L) (Int.toNat (Nat.cast i))=some (.sl (L[i]'(by omega)).1 (vi (Ea (CY types dir g.edges) a i))):=by rw[← e];exact nVN (by omega)
  (conv=>whnf);repeat' (first|(apply AU;(· exact hn);conv=>whnf)|(refine Aa hp ?_;rintro _ rfl;conv=>whnf)|(refine Kz (f:=Qo) (l:=L) (x:=(b,Ea (CY types dir g.edges) a (i+1))) Wq hl.symm (by omega) ?_;conv=>whnf)|(refine kA ?_;conv=>whnf)|(refine Br.mk (fun hc=>?_) fun hc=>?_<;>first|exact hc.elim|conv=>whnf)|(refine kB ?_))
  all_goals first
   |(exfalso;omega)
   |exact again.mk ⟨_,by omega,i+1,_,_,_,L++[(b,Ea (CY types dir g.edges) a (i+1))],rfl,by omega,by omega,hL.more b,rfl,rfl⟩
 ·obtain rfl:i=k:=by omega
  (conv=>whnf);repeat' (first  |(refine kA ?_;conv=>whnf)|(refine Br.mk (fun hc=>?_) fun hc=>?_<;>first|exact hc.elim|conv=>whnf)|(refine kB ?_))
  all_goals first
   |(exfalso;omega)
   |exact⟨L,by rw[← hl,uV],hL⟩
def EH (g:GG) (a:Int):Prop:=a∈g.nodes.map GN.id
instance (g:GG) (a:Int):Decidable (EH g a):=by unfold EH;infer_instance
theorem RH {g:GG} (hg:g.ok) (hf:U8 g) (hl:g.nodes.length<2^62) {a:Int}:Au (Ac tab) 30 [g.av,.int .i64 a] (· =.bool (decide (EH g a))):=by
 obtain⟨_,⟨n,rfl⟩,hp⟩:=(AdP hg hf hl (id:=a)).Oj
 refine Af rfl rfl ?_
 (conv=>whnf);repeat' (first|(refine Aa hp ?_;rintro _ rfl;conv=>whnf)|(refine kA ?_;conv=>whnf)|(refine Br.mk (fun hc=>?_) fun hc=>?_<;>first|exact hc.elim|conv=>whnf)|(refine kB ?_))
 all_goals first|exact congrArg AV.bool hc.symm
theorem TK {g:GG} (hl:g.nodes.length<2^62) {id:Int}:Au (Ac tab) 21 [g.av,.int .i64 id] (fun v=>∃n:GN,v=.CO [n.av,.bool (decide (EH g id))]):=by
 refine Af rfl rfl ?_
 (conv=>whnf);repeat' (first  |(refine kA ?_;conv=>whnf)|(refine Br.mk (fun hc=>?_) fun hc=>?_<;>first|exact hc.elim|conv=>whnf)|(refine kB ?_))
 refine Ae (fun m env s=>∃i c:Nat,m=g.nodes.length-i∧(∀ x∈g.nodes.take i,x.id≠id)∧env=[(1,.int .i64 id),(2,.ref 0 0 0 0),(4,.ref 1 1 0 0),(6,.int .i64 i)]∧s=⟨[.arr 0 4 true true [g.av],.arr 1 3 true true [.agg [.int .i64 0,.sl false [],.sl false []]]],c⟩) ?_ _ _ _ ⟨0,_,rfl,by simp,rfl,rfl⟩
 rintro _ _ _ ⟨i,c,rfl,hx,rfl,rfl⟩
 refine⟨rfl,?_⟩
 by_cases hlt:i<g.nodes.length
 ·have hm:=List.getElem_mem hlt
  by_cases he:(g.nodes[i]).id=id
  ·have hin:EH g id:=List.mem_map.2 ⟨_,hm,he⟩
   rw[decide_eq_true hin]
   (conv=>whnf);repeat' (first  |(refine kA ?_;conv=>whnf)|(refine Br.mk (fun hc=>?_) fun hc=>?_<;>first|exact hc.elim|conv=>whnf)|(refine kB ?_))
   all_goals first
        |(exfalso;omega)
        |exact⟨g.nodes[i],rfl⟩
  ·(conv=>whnf);repeat' (first  |(refine kA ?_;conv=>whnf)|(refine Br.mk (fun hc=>?_) fun hc=>?_<;>first|exact hc.elim|conv=>whnf)|(refine kB ?_))
   all_goals first
        |(exfalso;omega)
        |exact again.mk ⟨_,by omega,i+1,_,rfl,fun x hx'=>by
          rw[List.take_succ_eq_append_getElem hlt,List.mem_append,List.mem_singleton]at hx'
          rcases hx' with k|k
          ·exact hx x k
          ·subst k;exact he,rfl,rfl⟩
 ·rw[List.take_of_length_le (by omega)]at hx
  have hin:¬EH g id:=fun k=>by obtain⟨n,hn,e⟩:=List.mem_map.1 k;exact hx n hn e
  rw[decide_eq_false hin]
  (conv=>whnf);repeat' (first  |(refine kA ?_;conv=>whnf)|(refine Br.mk (fun hc=>?_) fun hc=>?_<;>first|exact hc.elim|conv=>whnf)|(refine kB ?_))
  all_goals first
   |(exfalso;omega)
   |exact⟨⟨0,false,[],false,[]⟩,rfl⟩
def Nh (z:Int):Nat:=(min (if z<0 then 0 else z) 6).toNat
theorem RI (z:Int):Nh z≤6:=by unfold Nh;omega
set_option maxHeartbeats 1000000 in
theorem Aan {g:GG} (hg:g.ok) (hl:g.nodes.length<2^62) (hE:g.edges.length≤100) {types:List (List UInt8)} {tn:Bool} (ht:types.length<2^63) {dir a z:Int}:
 Au (Ac tab) 11 [g.av,.int .i64 a,.sl tn (vs .str types),.int .i64 dir,.int .i64 z] (fun v=>∃b L,v=.sl b (vs Qo L)∧Ij (CY types dir g.edges) a (if EH g a then Nh z+1 else 0) L):=by
 obtain⟨_,⟨nd,rfl⟩,p1⟩:=(TK hl (id:=a)).Oj
 by_cases hn:EH g a
 case neg=>
  rw[decide_eq_false hn]at p1
  rw[if_neg hn]
  refine Af rfl rfl ?_
  (conv=>whnf);repeat' (first|(refine Aa p1 ?_;rintro _ rfl;conv=>whnf)|(refine kA ?_;conv=>whnf)|(refine Br.mk (fun hc=>?_) fun hc=>?_<;>first|exact hc.elim|conv=>whnf)|(refine kB ?_))
  all_goals first
   |exact⟨_,[],rfl,rfl⟩
 rw[decide_eq_true hn]at p1
 rw[if_pos hn]
 have hc:=RI z
 refine Af rfl rfl ?_
 (conv=>whnf);repeat' (first|(refine Aa p1 ?_;rintro _ rfl;conv=>whnf)|(refine kA ?_;conv=>whnf)|(refine Br.mk (fun hc=>?_) fun hc=>?_<;>first|exact hc.elim|conv=>whnf)|(refine kB ?_))
 refine Ae (fun m env s=>∃(i go c n:Nat) (L:List (Bool×List Int)),m=Nh z-i∧i≤Nh z∧n=i+1∧Ij (CY types dir g.edges) a (i+1) L∧env=[(2,.sl tn (vs .str types)),(3,.int .i64 dir),(4,.int .i64 z),(5,.ref 0 0 0 0),(13,.own 2 go 0 n),(14,.int .i64 i)]∧s=⟨[.arr 0 4 true true [g.av],.arr 1 3 true true [nd.av],.arr go 1 true true (vs Qo L)],c⟩) ?_ _ _ _ ⟨0,_,_,_,[(true,[a])],rfl,by omega,rfl,rfl,rfl,rfl⟩
 rintro _ _ _ ⟨i,go,c,n,L,rfl,hi,rfl,hL,rfl,rfl⟩
 refine⟨rfl,?_⟩
 have hl:=hL.len
 by_cases hlt:i<Nh z
 ·have h1:(i:Int)<z∧i<6:=by unfold Nh at hlt;split at hlt<;>omega
  obtain⟨h1,h2⟩:=h1
  have hat:=hL.at (i:=i) (by omega)
  have hlen:=@Ot types dir g.edges a i
  obtain⟨_,⟨b,rfl⟩,hp⟩:=(Yc (g:=g) hg hE (types:=types) (tn:=tn) ht (dir:=dir) (l:=(L[i]'(by omega)).2) (nn:=(L[i]'(by omega)).1) (by rw[hat];omega)).Oj
  rw[hat]at hp
  have e:Qo (L[i]'(by omega))=.sl (L[i]'(by omega)).1 (vi (Ea (CY types dir g.edges) a i)):=by unfold Qo;rw[hat]
  have hnn:nth (vs Qo L) (Int.toNat (Nat.cast i))=some (.sl (L[i]'(by omega)).1 (vi (Ea (CY types dir g.edges) a i))):=by rw[← e];exact nVN (by omega)
  (conv=>whnf);repeat' (first|(apply AU;(· exact hnn);conv=>whnf)|(refine Aa hp ?_;rintro _ rfl;conv=>whnf)|(refine Kz (f:=Qo) (l:=L) (x:=(b,Ea (CY types dir g.edges) a (i+1))) Wq hl.symm (by omega) ?_;conv=>whnf)|(refine kA ?_;conv=>whnf)|(refine Br.mk (fun hc=>?_) fun hc=>?_<;>first|exact hc.elim|conv=>whnf)|(refine kB ?_))
  all_goals first
   |(exfalso;omega)
   |exact again.mk ⟨_,by omega,i+1,_,_,_,L++[(b,Ea (CY types dir g.edges) a (i+1))],rfl,by omega,by omega,hL.more b,rfl,rfl⟩
 ·have hik:i=Nh z:=by omega
  have h1:¬((i:Int)<z∧i<6):=by unfold Nh at hik;split at hik<;>omega
  rw[← hik]
  (conv=>whnf);repeat' (first  |(refine kA ?_;conv=>whnf)|(refine Br.mk (fun hc=>?_) fun hc=>?_<;>first|exact hc.elim|conv=>whnf)|(refine kB ?_))
  all_goals first
   |(exfalso;omega)
   |exact⟨true,L,by rw[← hl,uV],hL⟩
theorem Afp {l:List Int} {i:Nat} {x:Int} (hlt:i<l.length) (hx:x∉l.take i) (hc:¬l[i]=x):x∉l.take (i+1):=nms hlt hx hc
theorem AgW {l:List Int} {x:Int} {nn:Bool} (hl:l.length<2^62):Au (Ac tab) 71 [.sl nn (vi l),.int .i64 x] (fun v=>∃r:Int,v=.int .i64 r∧(0≤r↔x∈l)):=by
 refine Af rfl rfl ?_
 (conv=>whnf);repeat' (first  |(refine kA ?_;conv=>whnf)|(refine Br.mk (fun hc=>?_) fun hc=>?_<;>first|exact hc.elim|conv=>whnf)|(refine kB ?_))
 refine Ae (fun m env s=>∃i:Nat,m=l.length-i∧env=[(0,.sl nn (vi l)),(1,.int .i64 x),(7,.int .i64 l.length),(8,.int .i64 i)]∧s=⟨[],0⟩∧x∉l.take i) ?_ _ _ _ ⟨0,rfl,by first|rfl|(rw [← lV (f:=.int .i64) l];rfl),rfl,by simp⟩
 rintro _ _ _ ⟨i,rfl,rfl,rfl,hx⟩
 refine⟨rfl,?_⟩
 by_cases hlt:i<l.length
 ·by_cases he:l[i]=x
  ·(conv=>whnf);repeat' (first  |(refine kA ?_;conv=>whnf)|(refine Br.mk (fun hc=>?_) fun hc=>?_<;>first|exact hc.elim|conv=>whnf)|(refine kB ?_))
   all_goals first
        |(exfalso;omega)
        |exact⟨i,rfl,⟨fun _=>he▸List.getElem_mem hlt,fun _=>by omega⟩⟩
  ·(conv=>whnf);repeat' (first  |(refine kA ?_;conv=>whnf)|(refine Br.mk (fun hc=>?_) fun hc=>?_<;>first|exact hc.elim|conv=>whnf)|(refine kB ?_))
   all_goals first
        |(exfalso;omega)
        |exact again.mk ⟨_,by omega,i+1,rfl,rfl,rfl,Afp hlt hx he⟩
 ·rw[List.take_of_length_le (by omega)]at hx
  (conv=>whnf);repeat' (first  |(refine kA ?_;conv=>whnf)|(refine Br.mk (fun hc=>?_) fun hc=>?_<;>first|exact hc.elim|conv=>whnf)|(refine kB ?_))
  all_goals first
   |(exfalso;omega)
   |exact⟨-1,rfl,⟨fun h=>by omega,fun h=>absurd h hx⟩⟩
theorem Afq {l:List Int} {x:Int} {nn:Bool} (hl:l.length<2^62):Au (Ac tab) 41 [.sl nn (vi l),.int .i64 x] (· =.bool (decide (x∈l))):=by
 obtain⟨_,⟨r,rfl,hr⟩,p⟩:=(AgW (l:=l) (x:=x) (nn:=nn) hl).Oj
 refine Af rfl rfl ?_
 (conv=>whnf);repeat' (first|(refine Aa p ?_;rintro _ rfl;conv=>whnf)|(refine kA ?_;conv=>whnf)|(refine Br.mk (fun hc=>?_) fun hc=>?_<;>first|exact hc.elim|conv=>whnf)|(refine kB ?_))
 all_goals first|exact Dk (hr.1 (by omega))|exact BU (fun k=>absurd (hr.2 k) (by omega))
theorem AgL {l:List Int} {x:Int} {nn:Bool} (hl:l.length<2^62):Au (Ac tab) 38 [.sl nn (vi l),.int .i64 x] (· =.bool (decide (x∈l))):=by
 refine Af rfl rfl ?_
 (conv=>whnf);repeat' (first  |(refine kA ?_;conv=>whnf)|(refine Br.mk (fun hc=>?_) fun hc=>?_<;>first|exact hc.elim|conv=>whnf)|(refine kB ?_))
 refine Ae (fun m env s=>∃i:Nat,m=l.length-i∧env=[(0,.sl nn (vi l)),(1,.int .i64 x),(5,.int .i64 i)]∧s=⟨[],0⟩∧x∉l.take i) ?_ _ _ _ ⟨0,rfl,rfl,rfl,by simp⟩
 rintro _ _ _ ⟨i,rfl,rfl,rfl,hx⟩
 refine⟨rfl,?_⟩
 by_cases hlt:i<l.length
 ·by_cases he:l[i]=x
  ·(conv=>whnf);repeat' (first  |(refine kA ?_;conv=>whnf)|(refine Br.mk (fun hc=>?_) fun hc=>?_<;>first|exact hc.elim|conv=>whnf)|(refine kB ?_))
   all_goals first
        |(exfalso;omega)
        |exact Dk (he▸List.getElem_mem hlt)
  ·(conv=>whnf);repeat' (first  |(refine kA ?_;conv=>whnf)|(refine Br.mk (fun hc=>?_) fun hc=>?_<;>first|exact hc.elim|conv=>whnf)|(refine kB ?_))
   all_goals first
        |(exfalso;omega)
        |exact again.mk ⟨_,by omega,i+1,rfl,rfl,rfl,Afp hlt hx he⟩
 ·rw[List.take_of_length_le (by omega)]at hx
  (conv=>whnf);repeat' (first  |(refine kA ?_;conv=>whnf)|(refine Br.mk (fun hc=>?_) fun hc=>?_<;>first|exact hc.elim|conv=>whnf)|(refine kB ?_))
  all_goals first
   |(exfalso;omega)
   |exact BU hx
def FC (g:GG) (types:List (List UInt8)) (dir a b lo hi:Int):Option Nat:=
 if 0≤lo∧lo≤hi∧hi≤6∧EH g a then Ji (fun k=>decide (b∈Ea (CY types dir g.edges) a k)) lo.toNat (hi-lo+1).toNat else none
def UG:Option Nat→AV
 |some k=>.CO [.int .i64 k,.bool true]
 |none=>.CO [.int .i64 0,.bool false]
theorem Nc {g:GG} {types:List (List UInt8)} {dir a b lo hi:Int} (h:¬(0≤lo∧lo≤hi∧hi≤6∧EH g a)):FC g types dir a b lo hi=none:=if_neg h
theorem Rz {g:GG} {types:List (List UInt8)} {dir a b lo hi:Int} (h:0≤lo∧lo≤hi∧hi≤6∧EH g a) {i:Nat} (h1:lo≤i) (h2:(i:Int)≤hi) (h3:b∈Ea (CY types dir g.edges) a i) (h4:∀j:Nat,lo≤j→j<i→b∉Ea (CY types dir g.edges) a j):FC g types dir a b lo hi=some i:=by
 unfold FC
 rw[if_pos h]
 exact H7.2 ⟨by omega,by omega,decide_eq_true h3,fun j g1 g2=>decide_eq_false (h4 j (by omega) g2)⟩
theorem Qh {g:GG} {types:List (List UInt8)} {dir a b lo hi:Int} (h:0≤lo∧lo≤hi∧hi≤6∧EH g a) (h4:∀j:Nat,lo≤j→(j:Int)≤hi→b∉Ea (CY types dir g.edges) a j):FC g types dir a b lo hi=none:=by
 unfold FC
 rw[if_pos h]
 exact JR.2 fun j g1 g2=>decide_eq_false (h4 j (by omega) (by omega))
set_option maxHeartbeats 2000000 in
theorem UF {g:GG} (hg:g.ok) (hf:U8 g) (hl:g.nodes.length<2^62) (hE:g.edges.length≤100) {types:List (List UInt8)} {tn:Bool} (ht:types.length<2^63) {dir a b lo hi:Int}:
 Au (Ac tab) 16 [g.av,.int .i64 a,.int .i64 b,.sl tn (vs .str types),.int .i64 dir,.int .i64 lo,.int .i64 hi] (· =UG (FC g types dir a b lo hi)):=by
 have p1:=RH hg hf hl (a:=a)
 by_cases h1:lo<0
 ·rw[Nc (by omega)]
  refine Af rfl rfl ?_
  (conv=>whnf);repeat' (first  |(refine kA ?_;conv=>whnf)|(refine Br.mk (fun hc=>?_) fun hc=>?_<;>first|exact hc.elim|conv=>whnf)|(refine kB ?_))
  all_goals first|rfl|(exfalso;omega)
 by_cases h2:lo>hi
 ·rw[Nc (by omega)]
  refine Af rfl rfl ?_
  (conv=>whnf);repeat' (first  |(refine kA ?_;conv=>whnf)|(refine Br.mk (fun hc=>?_) fun hc=>?_<;>first|exact hc.elim|conv=>whnf)|(refine kB ?_))
  all_goals first|rfl|(exfalso;omega)
 by_cases h3:hi>6
 ·rw[Nc (by omega)]
  refine Af rfl rfl ?_
  (conv=>whnf);repeat' (first  |(refine kA ?_;conv=>whnf)|(refine Br.mk (fun hc=>?_) fun hc=>?_<;>first|exact hc.elim|conv=>whnf)|(refine kB ?_))
  all_goals first|rfl|(exfalso;omega)
 by_cases hn:EH g a
 case neg=>
  rw[Nc (fun k=>hn k.2.2.2)]
  rw[decide_eq_false hn]at p1
  refine Af rfl rfl ?_
  (conv=>whnf);repeat' (first|(refine Aa p1 ?_;rintro _ rfl;conv=>whnf)|(refine kA ?_;conv=>whnf)|(refine Br.mk (fun hc=>?_) fun hc=>?_<;>first|exact hc.elim|conv=>whnf)|(refine kB ?_))
  all_goals first|rfl|(exfalso;omega)
 rw[decide_eq_true hn]at p1
 have hv:0≤lo∧lo≤hi∧hi≤6∧EH g a:=⟨by omega,by omega,by omega,hn⟩
 obtain⟨k,rfl⟩:∃k:Nat,hi=(k:Int):=⟨hi.toNat,by omega⟩
 obtain⟨_,⟨L,rfl,hL⟩,p3⟩:=(Ws (g:=g) hg hE (types:=types) (tn:=tn) ht (dir:=dir) (a:=a) (k:=k) (by omega)).Oj
 have hLl:=hL.len
 refine Af rfl rfl ?_
 (conv=>whnf);repeat' (first|((first|refine Aa p1 ?_|refine Aa p3 ?_);rintro _ rfl;conv=>whnf)|(refine kA ?_;conv=>whnf)|(refine Br.mk (fun hc=>?_) fun hc=>?_<;>first|exact hc.elim|conv=>whnf)|(refine kB ?_))
 all_goals first|(exfalso;omega)|skip
 clear p1 p3
 refine Ae (fun m env s=>∃(i c:Nat),m=k+1-i∧lo≤i∧i≤k+1∧(∀ j:Nat,lo≤j→j<i→b∉Ea (CY types dir g.edges) a j)∧env=[(2,.int .i64 b),(6,.int .i64 k),(16,.sl true (vs Qo L)),(17,.int .i64 i)]∧s=⟨[.arr 0 4 true true [g.av]],c⟩) ?_ _ _ _ ⟨lo.toNat,_,rfl,by omega,by omega,fun j g1 g2=>absurd g2 (by omega),by rw[Int.toNat_of_nonneg (by omega)],rfl⟩
 rintro _ _ _ ⟨i,c,rfl,hlo,hik,hno,rfl,rfl⟩
 refine⟨rfl,?_⟩
 by_cases hlt:i≤k
 ·have hat:=hL.at (i:=i) (by omega)
  have hlen:=@Ot types dir g.edges a i
  have e:Qo (L[i]'(by omega))=.sl (L[i]'(by omega)).1 (vi (Ea (CY types dir g.edges) a i)):=by unfold Qo;rw[hat]
  have hnn:nth (vs Qo L) (Int.toNat (Nat.cast i))=some (.sl (L[i]'(by omega)).1 (vi (Ea (CY types dir g.edges) a i))):=by rw[← e];exact nVN (by omega)
  have hp:=Afq (l:=Ea (CY types dir g.edges) a i) (x:=b) (nn:=(L[i]'(by omega)).1) (by omega)
  by_cases hb:b∈Ea (CY types dir g.edges) a i
  ·rw[decide_eq_true hb]at hp
   rw[Rz hv hlo (by omega) hb hno]
   (conv=>whnf);repeat' (first|(apply AU;(· exact hnn);conv=>whnf)|(refine Aa hp ?_;rintro _ rfl;conv=>whnf)|(refine kA ?_;conv=>whnf)|(refine Br.mk (fun hc=>?_) fun hc=>?_<;>first|exact hc.elim|conv=>whnf)|(refine kB ?_))
   all_goals first|rfl|(exfalso;omega)
  ·rw[decide_eq_false hb]at hp
   (conv=>whnf);repeat' (first|(apply AU;(· exact hnn);conv=>whnf)|(refine Aa hp ?_;rintro _ rfl;conv=>whnf)|(refine kA ?_;conv=>whnf)|(refine Br.mk (fun hc=>?_) fun hc=>?_<;>first|exact hc.elim|conv=>whnf)|(refine kB ?_))
   all_goals first
        |(exfalso;omega)
        |exact again.mk ⟨_,by omega,i+1,_,rfl,by omega,by omega,fun j g1 g2=>by
          rcases Nat.lt_or_ge j i with q|q
          ·exact hno j g1 q
          ·rw[show j=i by omega];exact hb,rfl,rfl⟩
 ·rw[Qh hv (fun j g1 g2=>hno j g1 (by omega))]
  (conv=>whnf);repeat' (first  |(refine kA ?_;conv=>whnf)|(refine Br.mk (fun hc=>?_) fun hc=>?_<;>first|exact hc.elim|conv=>whnf)|(refine kB ?_))
  all_goals first|rfl|(exfalso;omega)
set_option maxHeartbeats 2000000 in
theorem DistR {g:GG} (hg:g.ok) (hl:g.nodes.length<2^62) (hE:g.edges.length≤100) {types:List (List UInt8)} {tn:Bool} (ht:types.length<2^63) {dir a b lo hi:Int}:
 Au (Ac tab) 25 [g.av,.int .i64 a,.int .i64 b,.sl tn (vs .str types),.int .i64 dir,.int .i64 lo,.int .i64 hi] (· =UG (FC g types dir a b lo hi)):=by
 by_cases h1:lo<0
 ·rw[Nc (by omega)]
  refine Af rfl rfl ?_
  (conv=>whnf);repeat' (first  |(refine kA ?_;conv=>whnf)|(refine Br.mk (fun hc=>?_) fun hc=>?_<;>first|exact hc.elim|conv=>whnf)|(refine kB ?_))
  all_goals first|rfl|(exfalso;omega)
 by_cases h2:lo>hi
 ·rw[Nc (by omega)]
  refine Af rfl rfl ?_
  (conv=>whnf);repeat' (first  |(refine kA ?_;conv=>whnf)|(refine Br.mk (fun hc=>?_) fun hc=>?_<;>first|exact hc.elim|conv=>whnf)|(refine kB ?_))
  all_goals first|rfl|(exfalso;omega)
 by_cases h3:hi>6
 ·rw[Nc (by omega)]
  refine Af rfl rfl ?_
  (conv=>whnf);repeat' (first  |(refine kA ?_;conv=>whnf)|(refine Br.mk (fun hc=>?_) fun hc=>?_<;>first|exact hc.elim|conv=>whnf)|(refine kB ?_))
  all_goals first|rfl|(exfalso;omega)
 obtain⟨_,⟨lb,L,rfl,hL⟩,p3⟩:=(Aan (g:=g) hg hl hE (types:=types) (tn:=tn) ht (dir:=dir) (a:=a) (z:=hi)).Oj
 have hLl:=hL.len
 obtain⟨k,rfl⟩:∃k:Nat,hi=(k:Int):=⟨hi.toNat,by omega⟩
 have hck:Nh k=k:=by unfold Nh;split<;>omega
 rw[hck]at hL hLl
 refine Af rfl rfl ?_
 (conv=>whnf);repeat' (first|(refine Aa p3 ?_;rintro _ rfl;conv=>whnf)|(refine kA ?_;conv=>whnf)|(refine Br.mk (fun hc=>?_) fun hc=>?_<;>first|exact hc.elim|conv=>whnf)|(refine kB ?_))
 all_goals first|(exfalso;omega)|skip
 clear p3
 by_cases hn:EH g a
 case neg=>
  rw[if_neg hn]at hLl
  obtain rfl:=List.eq_nil_of_length_eq_zero hLl
  rw[Nc (fun k=>hn k.2.2.2)]
  refine Iz ?_ rfl
  (conv=>whnf);repeat' (first  |(refine kA ?_;conv=>whnf)|(refine Br.mk (fun hc=>?_) fun hc=>?_<;>first|exact hc.elim|conv=>whnf)|(refine kB ?_))
  all_goals first|rfl|(exfalso;omega)
 rw[if_pos hn]at hL hLl
 have hv:0≤lo∧lo≤(k:Int)∧(k:Int)≤6∧EH g a:=⟨by omega,by omega,by omega,hn⟩
 refine Ae (fun m env s=>∃(i c:Nat),m=k+1-i∧lo≤i∧i≤k+1∧(∀ j:Nat,lo≤j→j<i→b∉Ea (CY types dir g.edges) a j)∧env=[(2,.int .i64 b),(16,.sl lb (vs Qo L)),(17,.int .i64 i)]∧s=⟨[.arr 0 4 true true [g.av]],c⟩) ?_ _ _ _ ⟨lo.toNat,_,rfl,by omega,by omega,fun j g1 g2=>absurd g2 (by omega),by rw[Int.toNat_of_nonneg (by omega)],rfl⟩
 rintro _ _ _ ⟨i,c,rfl,hlo,hik,hno,rfl,rfl⟩
 refine⟨rfl,?_⟩
 by_cases hlt:i≤k
 ·have hat:=hL.at (i:=i) (by omega)
  have hlen:=@Ot types dir g.edges a i
  have e:Qo (L[i]'(by omega))=.sl (L[i]'(by omega)).1 (vi (Ea (CY types dir g.edges) a i)):=by unfold Qo;rw[hat]
  have hnn:nth (vs Qo L) (Int.toNat (Nat.cast i))=some (.sl (L[i]'(by omega)).1 (vi (Ea (CY types dir g.edges) a i))):=by rw[← e];exact nVN (by omega)
  have hp:=AgL (l:=Ea (CY types dir g.edges) a i) (x:=b) (nn:=(L[i]'(by omega)).1) (by omega)
  by_cases hb:b∈Ea (CY types dir g.edges) a i
  ·rw[decide_eq_true hb]at hp
   rw[Rz hv hlo (by omega) hb hno]
   (conv=>whnf);repeat' (first|(apply AU;(· exact hnn);conv=>whnf)|(refine Aa hp ?_;rintro _ rfl;conv=>whnf)|(refine kA ?_;conv=>whnf)|(refine Br.mk (fun hc=>?_) fun hc=>?_<;>first|exact hc.elim|conv=>whnf)|(refine kB ?_))
   all_goals first|rfl|(exfalso;omega)
  ·rw[decide_eq_false hb]at hp
   (conv=>whnf);repeat' (first|(apply AU;(· exact hnn);conv=>whnf)|(refine Aa hp ?_;rintro _ rfl;conv=>whnf)|(refine kA ?_;conv=>whnf)|(refine Br.mk (fun hc=>?_) fun hc=>?_<;>first|exact hc.elim|conv=>whnf)|(refine kB ?_))
   all_goals first
        |(exfalso;omega)
        |exact again.mk ⟨_,by omega,i+1,_,rfl,by omega,by omega,fun j g1 g2=>by
          rcases Nat.lt_or_ge j i with q|q
          ·exact hno j g1 q
          ·rw[show j=i by omega];exact hb,rfl,rfl⟩
 ·rw[Qh hv (fun j g1 g2=>hno j g1 (by omega))]
  (conv=>whnf);repeat' (first  |(refine kA ?_;conv=>whnf)|(refine Br.mk (fun hc=>?_) fun hc=>?_<;>first|exact hc.elim|conv=>whnf)|(refine kB ?_))
  all_goals first|rfl|(exfalso;omega)
end AI
end Go.Proofs.YthjeehjphekjmaaGreatDoor
