/- The reference puts nodes into a graph, exactly. The reference: lists of labels with one more, one less. The reference's null, lists of properties and labels. Looking up a key in properties: slices.BinarySearchFunc, on memory that stays. The reference sets a property, exactly. Taking out, at the end of a list. The reference takes a property away (set to null), exactly. The reference: lists of labels with one more, one less, exactly. The graph that an editor edits, in the store: nodes and edges with lists of their own. Looking up a key in nodes: slices.BinarySearchFunc, on memory that stays. -/
import Derived.Test.YtceiccjppfapjaaGreatDoorXMal
import Derived.Test.YtceiccjppfapjaaGreatDoorXMae
import Derived.Test.YtceiccjppfapjaaGreatDoorXMaf
set_option linter.unusedVariables false
set_option maxRecDepth 4000
namespace Go.Proofs.YtceiccjppfapjaaGreatDoor
namespace AI
theorem Qm {α:Type} {key:α→Int} {l:List α} {i:Nat} {x:Int} (h:Inc CB key l) (hi:i<l.length) (hx:x≤key l[i]):∀y∈l.drop (i+1),x<key y:=by
 intro y hy
 obtain⟨j,hj,rfl⟩:=List.mem_drop_iff_getElem.1 hy
 have:=h.get (show i<i+1+j by omega) (by omega)
 simp only[CB,decide_eq_true_eq]at this
 omega
theorem U8 {x y:GN} {L:List GN} (h:x.id<y.id):Ba CB GN.id x (L++[y])=Ba CB GN.id x L++[y]:=Lc Ar (by simpa[CB]using h)
theorem U9 {x:GN} {L:List GN} (h:∀y∈L,y.id<x.id):Ba CB GN.id x L=L++[x]:=J8 Ar fun y hy=>by simpa[CB]using h y hy
theorem Ado {x y:GN} {L:List GN} (h:∀y∈L,y.id<x.id) (e:y.id=x.id):Ba CB GN.id x (L++[y])=L++[x]:=Ou Ar (fun y hy=>by simpa[CB]using h y hy) e
set_option maxHeartbeats 1000000 in
theorem Va {g:GG} {n:GN} (hg:g.ok) (hN:g.nodes.length≤3000) (hI:Inc CB GN.id g.nodes) (hi1:1≤n.id) (hi2:n.id≤1000000):Ae (Ad tab) 99 [g.av,n.av] (· =GG.av ⟨true,Ba CB GN.id n g.nodes,g.en,g.edges,(if n.id+1>g.Bv then n.id+1 else g.Bv),g.BD⟩):=by
 obtain⟨g1,g2,g3,g4,g5,g6,g7,g8⟩:=hg
 unfold I64 at g7
 refine Ac rfl rfl ?_
 (conv=>whnf);repeat' (first  |(refine kA ?_;conv=>whnf)|(refine Br.mk (fun hc=>?_) fun hc=>?_<;>first|exact hc.elim|conv=>whnf)|(refine kB ?_))
 refine Ag (fun m env s=>∃(i c go k:Nat) (b d:Bool) (l:List GN),m=g.nodes.length-i∧i≤g.nodes.length∧k=l.length∧l.length≤i+1∧(b=false→d=false)∧(d=false→l=g.nodes.take i∧∀y∈g.nodes.take i,y.id<n.id)∧(d=true→l=Ba CB GN.id n (g.nodes.take i)∧∀y∈g.nodes.drop i,n.id<y.id)∧env=[(2,.ref 0 0 0 0),(3,.ref 1 1 0 0),(4,.ref 2 2 0 0),(5,.own 3 go 0 k),(6,.bool d),(7,.int .i64 i)]∧
  s=⟨[.arr 0 4 true true [g.av],.arr 1 3 true true [n.av],.arr 2 4 true true [.agg [.sl false [],.sl false [],.int .i64 0,.int .i64 0]],.arr go 3 b true (vs GN.av l)],c⟩) ?_ _ _ _ ⟨0,_,_,0,_,_,[],rfl,by omega,rfl,by simp,fun _=>rfl,fun _=>⟨rfl,by simp⟩,fun h=>Bool.noConfusion h,rfl,rfl⟩
 rintro _ _ _ ⟨i,c,go,k,b,d,l,rfl,hi,hk,hl,hb,hd,ht,rfl,rfl⟩
 refine⟨rfl,?_⟩
 subst hk
 by_cases hlt:i<g.nodes.length
 ·have hda:∀x:Int,x≤(g.nodes[i]).id→∀y∈g.nodes.drop (i+1),x<y.id:=fun x hx=>Qm hI hlt hx
  have hs:=List.take_succ_eq_append_getElem hlt
  have htk:∀{P:GN→Prop},(∀ y∈g.nodes.take i,P y)→P g.nodes[i]→∀y∈g.nodes.take (i+1),P y:=fun{P} h1 h2 y hy=>by
   rw[hs]at hy
   rcases List.mem_append.1 hy with hy|hy
   ·exact h1 y hy
   ·obtain rfl:=List.mem_singleton.1 hy;exact h2
  cases d
  ·obtain⟨rfl,hlo⟩:=hd rfl
   have hle:(g.nodes.take i).length≤i:=by rw[List.length_take];omega
   (conv=>whnf);repeat' (first|(refine Ih (x:=n) Qn (by simp) (by simp;omega) ?_;conv=>whnf)|(refine Ih (x:=g.nodes[i]) Qn (by simp) (by simp;omega) ?_;conv=>whnf)|(refine kA ?_;conv=>whnf)|(refine Br.mk (fun hc=>?_) fun hc=>?_<;>first|exact hc.elim|conv=>whnf)|(refine kB ?_))
   all_goals first
        |exact again.mk ⟨_,by omega,i+1,_,_,_,_,_,g.nodes.take i++[n]++[g.nodes[i]],rfl,by omega,by simp,by simp;omega,fun h=>Bool.noConfusion h,fun h=>Bool.noConfusion h,fun _=>⟨by rw[hs,U8 (by omega),U9 hlo],hda _ (by omega)⟩,rfl,rfl⟩
        |exact again.mk ⟨_,by omega,i+1,_,_,_,_,_,g.nodes.take i++[n],rfl,by omega,by simp,by simp;omega,fun h=>Bool.noConfusion h,fun h=>Bool.noConfusion h,fun _=>⟨by rw[hs,Ado hlo (by omega)],hda _ (by omega)⟩,rfl,rfl⟩
        |exact again.mk ⟨_,by omega,i+1,_,_,_,_,_,g.nodes.take i++[g.nodes[i]],rfl,by omega,by rw[List.length_append,List.length_singleton],by rw[List.length_append,List.length_singleton];omega,fun _=>rfl,fun _=>⟨hs.symm,htk hlo (by omega)⟩,fun h=>Bool.noConfusion h,rfl,rfl⟩
        |(exfalso;omega)
  ·obtain⟨rfl,hhi⟩:=ht rfl
   have hgt:n.id<(g.nodes[i]).id:=hhi _ (by rw[List.drop_eq_getElem_cons hlt];exact List.mem_cons_self)
   (conv=>whnf);repeat' (first|(refine Ih (x:=g.nodes[i]) Qn (by simp) (by simp;omega) ?_;conv=>whnf)|(refine kA ?_;conv=>whnf)|(refine Br.mk (fun hc=>?_) fun hc=>?_<;>first|exact hc.elim|conv=>whnf)|(refine kB ?_))
   all_goals first
        |exact again.mk ⟨_,by omega,i+1,_,_,_,_,_,Ba CB GN.id n (g.nodes.take i)++[g.nodes[i]],rfl,by omega,by simp,by simp;omega,fun h=>Bool.noConfusion h,fun h=>Bool.noConfusion h,fun _=>⟨by rw[hs,U8 hgt],hda _ (by omega)⟩,rfl,rfl⟩
        |(exfalso;omega)
 ·obtain rfl:i=g.nodes.length:=by omega
  rw[List.take_length]at hd ht
  cases d
  ·obtain⟨rfl,hlo⟩:=hd rfl
   rw[U9 hlo]
   (conv=>whnf);repeat' (first|(refine Ih (x:=n) Qn (by simp) (by simp;omega) ?_;conv=>whnf)|(refine kA ?_;conv=>whnf)|(refine Br.mk (fun hc=>?_) fun hc=>?_<;>first|exact hc.elim|conv=>whnf)|(refine kB ?_))
   all_goals first|rfl|(exfalso;omega)
  ·obtain⟨rfl,_⟩:=ht rfl
   cases b
   ·exact absurd (hb rfl) Bool.noConfusion
   (conv=>whnf);repeat' (first  |(refine kA ?_;conv=>whnf)|(refine Br.mk (fun hc=>?_) fun hc=>?_<;>first|exact hc.elim|conv=>whnf)|(refine kB ?_))
   all_goals first|rfl|(exfalso;omega)
theorem AkV {α:Type} {f:α→AV} {es g len:Nat} {nn cl:Bool} {l l':List α} {ys:List AV} {bytes:Nat} {K:Nat→Bool→Bool→List AV→Prop} (he:ys=vs f l') (hf:∀x,(f x).cells.length=es) (hl:len=l.length) (hr:(l.length+l'.length)*bytes≤2 ^ 46) (hn:nn=false→l=[]) (h:∀b,(b=false→l++l'=[])→K (l.length+l'.length) b cl (vs f (l++l'))):
 Lj g g es es len nn cl true (vs f l) ys bytes K:=by
 subst hl he
 refine⟨⟨rfl,rfl,by simp,Gp hf l',by rw[lV];exact Ql hr⟩,?_⟩
 rw[lV,Bool.and_true,List.take_of_length_le (by simp)]
 have:=h (nn||!(vs f l').isEmpty) (fun hb=>by
  simp[vs]at hb
  rw[hn hb.1,hb.2];rfl)
 simpa[vs]using this
theorem AeK {α:Type} {A B:List α}:List.take (A.length+B.length) (List.drop 0 (A++B))=A++B:=by
 rw[List.drop_zero,List.take_of_length_le (Nat.le_of_eq List.length_append)]
theorem X6 (x:List UInt8):(AV.str x).cells.length=1:=rfl
theorem V4 {p q:Prop} [Decidable p] [Decidable q] (h:p↔q):AV.bool (decide p)=AV.bool (decide q):=by
 by_cases hp:p
 ·rw[decide_eq_true hp,decide_eq_true (h.1 hp)]
 ·rw[decide_eq_false hp,decide_eq_false (mt h.2 hp)]
theorem AbC {g:GV} (hg:g.ok):Ae (Ad tab) 168 [g.av] (· =.bool (decide (isNull g))):=by
 refine Ac rfl rfl ?_
 (conv=>whnf);repeat' (first|(refine Aa (AeS hg) ?_;rintro _ ⟨z,rfl,hz⟩;conv=>whnf)|(refine kA ?_;conv=>whnf)|(refine Br.mk (fun hc=>?_) fun hc=>?_<;>first|exact hc.elim|conv=>whnf)|(refine kB ?_))
 all_goals first|exact Bf (hz.1 hc)|exact Aw (mt hz.2 hc)|exact V4 hz
theorem Aq:PL Op.bytesLess where
 Nl:=fun x=>by rw[PZ];simp
 tr:=fun x y z h1 h2=>by rw[PZ]at *;simp only[decide_eq_true_eq]at *;exact List.lt_trans h1 h2
 tot:=fun x y h1 h2=>Xj h1 h2
theorem AhN {a b:List UInt8} (h:cS a b<0):Op.bytesLess a b=true:=by
 unfold cS at h
 split at h
 ·assumption
 ·split at h<;>omega
theorem AfP {a b:List UInt8} (h:¬cS a b<0):Op.bytesLess a b=false:=by
 cases h1:Op.bytesLess a b
 ·rfl
 ·exact absurd (by unfold cS;rw[if_pos h1];omega) h
theorem Aj2 {n:GP} {x:List UInt8}:Ae (Ad tab) 252 [n.av,.str x] (· =.int .i64 (cS n.key x)):=by
 refine Ac rfl rfl ?_
 (conv=>whnf);repeat' (first|(refine kA ?_;conv=>whnf)|(refine Br.mk (fun hc=>?_) fun hc=>?_<;>first|exact hc.elim|conv=>whnf)|(refine Aa Kt ?_;rintro _ rfl;conv=>whnf)|(refine kB ?_))
 rfl
theorem bsP {l:List GP} {nn:Bool} {x:(List UInt8)} (hl:l.length<2^62) (hi:Inc Op.bytesLess GP.key l):Ae (Ad tab) 251 [.sl nn (vs GP.av l),.str x,.fn 252 []] (fun v=>∃(i:Nat) (b:Bool),v=.BL [.int .i64 i,.bool b]∧AtK Op.bytesLess GP.key x l i∧(b=true↔∃y∈l,GP.key y=x)):=by
 have fin:∀i:Nat,AtK Op.bytesLess GP.key x l i→((∃ y∈l,GP.key y=x)↔∃h:i<l.length,GP.key l[i]=x):=by
  intro i h
  constructor
  ·intro hf
   obtain⟨h1,h2,_⟩:=h.found Aq hi hf
   exact⟨h1,h2⟩
  ·rintro⟨h1,h2⟩
   exact⟨_,List.getElem_mem h1,h2⟩
 refine Ac rfl rfl ?_
 (conv=>whnf);repeat' (first|(refine kA ?_;conv=>whnf)|(refine Br.mk (fun hc=>?_) fun hc=>?_<;>first|exact hc.elim|conv=>whnf)  |(refine kB ?_))
 refine Ag (fun m env s=>∃(i j:Nat),m=j-i∧i≤j∧j≤l.length∧env=[(0,.sl nn (vs GP.av l)),(1,.str x),(2,.fn 252 []),(8,.int .i64 l.length),(9,.int .i64 i),(10,.int .i64 j)]∧s=⟨[],0⟩∧
  (∀ k (h:k<l.length),k<i→Op.bytesLess (GP.key l[k]) x=true)∧(∀ k (h:k<l.length),j≤k→Op.bytesLess (GP.key l[k]) x=false)) ?_ _ _ _ ⟨0,l.length,rfl,by omega,by omega,by simp,rfl,fun k _ h=>absurd h (by omega),fun k h1 h=>absurd h (by omega)⟩
 rintro _ _ _ ⟨i,j,rfl,hij,hj,rfl,rfl,h1,h2⟩
 refine⟨rfl,?_⟩
 have lo:∀{q:Nat} (hq:q<l.length),Op.bytesLess (GP.key l[q]) x=true→∀k (h:k<l.length),k<q+1→Op.bytesLess (GP.key l[k]) x=true:=fun{q} hq hm k hk hlt=>by
  rcases Nat.lt_or_ge k q with h|h
  ·exact(Aq).tr _ _ _ (hi.get h hq) hm
  ·obtain rfl:k=q:=by omega
   exact hm
 have up:∀{q:Nat} (hq:q<l.length),Op.bytesLess (GP.key l[q]) x=false→∀k (h:k<l.length),q≤k→Op.bytesLess (GP.key l[k]) x=false:=fun{q} hq hm k hk hle=>by
  rcases Nat.lt_or_ge q k with h|h
  ·cases h3:Op.bytesLess (GP.key l[k]) x
   ·rfl
   ·have:=(Aq).tr _ _ _ (hi.get h hk) h3
    rw[hm]at this;cases this
  ·obtain rfl:k=q:=by omega
   exact hm
 (conv=>whnf);repeat' (first|(refine Vb (i+j) (by omega) (by omega) ?_;conv=>whnf)|(apply BK;(· exact AaK _);conv=>whnf)|(refine Aa Aj2 ?_;rintro _ rfl;conv=>whnf)|(refine kA ?_;conv=>whnf)|(refine Br.mk (fun hc=>?_) fun hc=>?_<;>first|exact hc.elim|conv=>whnf)|(refine kB ?_))
 all_goals first
  |exact again.mk ⟨_,by omega,(i+j) / 2+1,j,rfl,by omega,hj,rfl,rfl,lo (by omega) (AhN hc),h2⟩
  |exact again.mk ⟨_,by omega,i,(i+j) / 2,rfl,by omega,by omega,rfl,rfl,h1,up (by omega) (AfP hc)⟩
  |skip
 all_goals
  obtain rfl:i=j:=by omega
  have ha:AtK Op.bytesLess GP.key x l i:=⟨by omega,h1,h2⟩
  have hf:=fin i ha
  first
   |exact⟨i,_,rfl,ha,fun _=>hf.2 ⟨by omega,P5.1 hc⟩,fun _=>rfl⟩
   |exact⟨i,_,rfl,ha,fun h=>(by cases h),fun h=>(by obtain⟨_,e⟩:=hf.1 h;exact absurd (P5.2 e) hc)⟩
   |exact⟨i,_,rfl,ha,fun h=>(by cases h),fun h=>by obtain⟨e,_⟩:=hf.1 h;omega⟩
set_option maxHeartbeats 1000000 in
theorem VO {P:List GP} {nn:Bool} {key:List UInt8} {v:GV} (hP:P.length≤100000) (hI:Inc Op.bytesLess GP.key P) (hv:v.ok) (hn:¬isNull v):Ae (Ad tab) 170 [.sl nn (vs GP.av P),.str key,v.av] (· =.BL [.sl true (vs GP.av (Ba Op.bytesLess GP.key ⟨key,v⟩ P)),.bool (decide ((Ba Op.bytesLess GP.key ⟨key,v⟩ P).length≤16))]):=by
 have h0:Ae (Ad tab) 168 [v.av] (· =.bool false):=by have:=AbC hv;rw[decide_eq_false hn]at this;exact this
 refine Ac rfl rfl ?_
 (conv=>whnf);repeat' (first  |(refine kA ?_;conv=>whnf)|(refine Br.mk (fun hc=>?_) fun hc=>?_<;>first|exact hc.elim|conv=>whnf)|(refine kB ?_))
 refine Ag (fun m env s=>∃(i c go k:Nat) (b d:Bool) (r:List GP),m=P.length-i∧i≤P.length∧k=r.length∧r.length≤i+1∧(b=false→d=false)∧(d=false→r=P.take i∧∀y∈P.take i,Op.bytesLess y.key key=true)∧(d=true→r=Ba Op.bytesLess GP.key ⟨key,v⟩ (P.take i)∧∀y∈P.drop i,Op.bytesLess key y.key=true)∧env=[(0,.sl nn (vs GP.av P)),(1,.str key),(5,.ref 0 0 0 0),(8,.own 1 go 0 k),(9,.bool d),(10,.int .i64 i)]∧
  s=⟨[.arr 0 5 true true [v.av],.arr go 6 b true (vs GP.av r)],c⟩) ?_ _ _ _ ⟨0,_,_,0,_,_,[],rfl,by omega,rfl,by simp,fun _=>rfl,fun _=>⟨rfl,by simp⟩,fun h=>Bool.noConfusion h,rfl,rfl⟩
 rintro _ _ _ ⟨i,c,go,k,b,d,r,rfl,hi,hk,hl,hb,hd,ht,rfl,rfl⟩
 refine⟨rfl,?_⟩
 subst hk
 by_cases hlt:i<P.length
 ·have hs:=List.take_succ_eq_append_getElem hlt
  have hab:∀y∈P.drop (i+1),Op.bytesLess (P[i]).key y.key=true:=fun y hy=>by
   obtain⟨j,hj,rfl⟩:=List.mem_drop_iff_getElem.1 hy
   exact hI.get (show i<i+1+j by omega) (by omega)
  have htk:∀{R:GP→Prop},(∀ y∈P.take i,R y)→R P[i]→∀y∈P.take (i+1),R y:=fun{R} h1 h2 y hy=>by
   rw[hs]at hy
   rcases List.mem_append.1 hy with hy|hy
   ·exact h1 y hy
   ·obtain rfl:=List.mem_singleton.1 hy;exact h2
  cases d
  ·obtain⟨rfl,hlo⟩:=hd rfl
   (conv=>whnf);repeat' (first|(refine Aa h0 ?_;rintro _ rfl;conv=>whnf)|(refine Ih (x:=(⟨key,v⟩:GP)) OI (by simp) (by simp;omega) ?_;conv=>whnf)|(refine Ih (x:=P[i]) OI (by simp) (by simp;omega) ?_;conv=>whnf)|(refine kA ?_;conv=>whnf)|(refine Br.mk (fun hc=>?_) fun hc=>?_<;>first|exact hc.elim|conv=>whnf)|(refine kB ?_))
   all_goals first
        |(exfalso;have e1:Op.bytesLess (P[i]).key key=true:=by assumption
          rw[hc,Aq.Nl]at e1;cases e1)
        |(have hgt:Op.bytesLess key (P[i]).key=true:=by
           cases hx:Op.bytesLess key (P[i]).key with
           |true=>rfl
           |false=>exact absurd (Aq.tot _ _ (by assumption) hx) hc
          exact again.mk ⟨_,by omega,i+1,_,_,_,_,_,P.take i++[⟨key,v⟩]++[P[i]],rfl,by omega,by simp,by rw[List.length_append,List.length_append,List.length_singleton,List.length_singleton,List.length_take];omega,fun h=>Bool.noConfusion h,fun h=>Bool.noConfusion h,fun _=>⟨by rw[hs,Lc Aq hgt,J8 Aq hlo],fun y hy=>Aq.tr _ _ _ hgt (hab y hy)⟩,rfl,rfl⟩)
        |exact again.mk ⟨_,by omega,i+1,_,_,_,_,_,P.take i++[⟨key,v⟩],rfl,by omega,by simp,by rw[List.length_append,List.length_singleton,List.length_take];omega,fun h=>Bool.noConfusion h,fun h=>Bool.noConfusion h,fun _=>⟨by rw[hs,Ou Aq hlo hc],fun y hy=>by have:=hab y hy;rw[hc]at this;exact this⟩,rfl,rfl⟩
        |exact again.mk ⟨_,by omega,i+1,_,_,_,_,_,P.take i++[P[i]],rfl,by omega,by rw[List.length_append,List.length_singleton],by rw[List.length_append,List.length_singleton,List.length_take];omega,fun _=>rfl,fun _=>⟨hs.symm,htk hlo (by assumption)⟩,fun h=>Bool.noConfusion h,rfl,rfl⟩
  ·obtain⟨rfl,hhi⟩:=ht rfl
   have hgt:Op.bytesLess key (P[i]).key=true:=hhi _ (by rw[List.drop_eq_getElem_cons hlt];exact List.mem_cons_self)
   (conv=>whnf);repeat' (first|(refine Ih (x:=P[i]) OI (by simp) (by simp;omega) ?_;conv=>whnf)|(refine kA ?_;conv=>whnf)|(refine Br.mk (fun hc=>?_) fun hc=>?_<;>first|exact hc.elim|conv=>whnf)|(refine kB ?_))
   all_goals first
        |(exfalso;rw[hc,Aq.Nl]at hgt;cases hgt)
        |exact again.mk ⟨_,by omega,i+1,_,_,_,_,_,Ba Op.bytesLess GP.key ⟨key,v⟩ (P.take i)++[P[i]],rfl,by omega,by simp,by simp;omega,fun h=>Bool.noConfusion h,fun h=>Bool.noConfusion h,fun _=>⟨by rw[hs,Lc Aq hgt],fun y hy=>Aq.tr _ _ _ hgt (hab y hy)⟩,rfl,rfl⟩
 ·obtain rfl:i=P.length:=by omega
  rw[List.take_length]at hd ht
  cases d
  ·obtain⟨rfl,hlo⟩:=hd rfl
   rw[J8 Aq (x:=(⟨key,v⟩:GP)) hlo]
   (conv=>whnf);repeat' (first|(refine Aa h0 ?_;rintro _ rfl;conv=>whnf)|(refine Ih (x:=(⟨key,v⟩:GP)) OI (by simp) (by simp;omega) ?_;conv=>whnf)|(refine kA ?_;conv=>whnf)|(refine Br.mk (fun hc=>?_) fun hc=>?_<;>first|exact hc.elim|conv=>whnf)|(refine kB ?_))
   all_goals first|(exfalso;omega)|(refine congrArg (fun z=>AV.BL [AV.sl true _,AV.bool z]) ?_;symm;first|exact decide_eq_true (by rw[List.length_append,List.length_singleton];omega)|exact decide_eq_false (by rw[List.length_append,List.length_singleton];omega))
  ·obtain⟨rfl,_⟩:=ht rfl
   cases b
   ·exact absurd (hb rfl) Bool.noConfusion
   (conv=>whnf);repeat' (first  |(refine kA ?_;conv=>whnf)|(refine Br.mk (fun hc=>?_) fun hc=>?_<;>first|exact hc.elim|conv=>whnf)|(refine kB ?_))
   all_goals first|(exfalso;omega)|exact congrArg (fun z=>AV.BL [AV.sl true (vs GP.av (Ba Op.bytesLess GP.key ⟨key,v⟩ P)),AV.bool z]) (by first|rfl|(simp;omega))
section
variable {α κ:Type} {lt:κ→κ→Bool} {key:α→κ}
theorem TR {k:κ} {y:α} {L:List α} (hs:PL lt) (h:lt k (key y)=true):CO lt key k (L++[y])=CO lt key k L++[y]:=by
 have h1:lt (key y) k=false:=by
  cases hb:lt (key y) k with
  |false=>rfl
  |true=>have:=hs.tr _ _ _ h hb;rw[hs.Nl]at this;cases this
 simp[CO,below,above,List.filter_append,h,h1]
theorem Rz {k:κ} {L:List α} (hs:PL lt) (h:∀y∈L,lt (key y) k=true):CO lt key k L=L:=by
 have e1:below lt key k L=L:=filter_all h
 have e2:above lt key k L=[]:=filter_none fun y hy=>by
  cases hb:lt k (key y)with
  |false=>rfl
  |true=>have:=hs.tr _ _ _ hb (h y hy);rw[hs.Nl]at this;cases this
 rw[CO,e1,e2,List.append_nil]
theorem Aav {k:κ} {y:α} {L:List α} (hs:PL lt) (h:∀y∈L,lt (key y) k=true) (e:key y=k):CO lt key k (L++[y])=L:=by
 have h1:lt (key y) k=false:=by rw[e];exact hs.Nl _
 have h2:lt k (key y)=false:=by rw[e];exact hs.Nl _
 have:=Rz hs h
 simp only[CO,below,above]at this
 simp[CO,below,above,List.filter_append,h1,h2,this]
end
set_option maxHeartbeats 1000000 in
theorem WL {P:List GP} {nn:Bool} {key:List UInt8} {v:GV} (hP:P.length≤100000) (hI:Inc Op.bytesLess GP.key P) (hv:v.ok) (hn:isNull v):Ae (Ad tab) 170 [.sl nn (vs GP.av P),.str key,v.av] (fun w=>∃b,(b=false→CO Op.bytesLess GP.key key P=[])∧w=.BL [.sl b (vs GP.av (CO Op.bytesLess GP.key key P)),.bool (decide ((CO Op.bytesLess GP.key key P).length≤16))]):=by
 have h0:Ae (Ad tab) 168 [v.av] (· =.bool true):=by have:=AbC hv;rw[decide_eq_true hn]at this;exact this
 refine Ac rfl rfl ?_
 (conv=>whnf);repeat' (first  |(refine kA ?_;conv=>whnf)|(refine Br.mk (fun hc=>?_) fun hc=>?_<;>first|exact hc.elim|conv=>whnf)|(refine kB ?_))
 refine Ag (fun m env s=>∃(i c go k:Nat) (b d:Bool) (r:List GP),m=P.length-i∧i≤P.length∧k=r.length∧r.length≤i+1∧(b=false→r=[])∧(d=false→r=P.take i∧∀y∈P.take i,Op.bytesLess y.key key=true)∧(d=true→r=CO Op.bytesLess GP.key key (P.take i)∧∀y∈P.drop i,Op.bytesLess key y.key=true)∧env=[(0,.sl nn (vs GP.av P)),(1,.str key),(5,.ref 0 0 0 0),(8,.own 1 go 0 k),(9,.bool d),(10,.int .i64 i)]∧
  s=⟨[.arr 0 5 true true [v.av],.arr go 6 b true (vs GP.av r)],c⟩) ?_ _ _ _ ⟨0,_,_,0,_,_,[],rfl,by omega,rfl,by simp,fun _=>rfl,fun _=>⟨rfl,by simp⟩,fun h=>Bool.noConfusion h,rfl,rfl⟩
 rintro _ _ _ ⟨i,c,go,k,b,d,r,rfl,hi,hk,hl,hb,hd,ht,rfl,rfl⟩
 refine⟨rfl,?_⟩
 subst hk
 by_cases hlt:i<P.length
 ·have hs:=List.take_succ_eq_append_getElem hlt
  have hab:∀y∈P.drop (i+1),Op.bytesLess (P[i]).key y.key=true:=fun y hy=>by
   obtain⟨j,hj,rfl⟩:=List.mem_drop_iff_getElem.1 hy
   exact hI.get (show i<i+1+j by omega) (by omega)
  have htk:∀{R:GP→Prop},(∀ y∈P.take i,R y)→R P[i]→∀y∈P.take (i+1),R y:=fun{R} h1 h2 y hy=>by
   rw[hs]at hy
   rcases List.mem_append.1 hy with hy|hy
   ·exact h1 y hy
   ·obtain rfl:=List.mem_singleton.1 hy;exact h2
  cases d
  ·obtain⟨rfl,hlo⟩:=hd rfl
   (conv=>whnf);repeat' (first|(refine Aa h0 ?_;rintro _ rfl;conv=>whnf)|(refine Ih (x:=P[i]) OI (by simp) (by simp;omega) ?_;conv=>whnf)|(refine kA ?_;conv=>whnf)|(refine Br.mk (fun hc=>?_) fun hc=>?_<;>first|exact hc.elim|conv=>whnf)|(refine kB ?_))
   all_goals first
        |(exfalso;have e1:Op.bytesLess (P[i]).key key=true:=by assumption
          rw[hc,Aq.Nl]at e1;cases e1)
        |(have hgt:Op.bytesLess key (P[i]).key=true:=by
           cases hx:Op.bytesLess key (P[i]).key with
           |true=>rfl
           |false=>exact absurd (Aq.tot _ _ (by assumption) hx) hc
          exact again.mk ⟨_,by omega,i+1,_,_,_,_,_,P.take i++[P[i]],rfl,by omega,by rw[List.length_append,List.length_singleton],by rw[List.length_append,List.length_singleton,List.length_take];omega,fun h=>Bool.noConfusion h,fun h=>Bool.noConfusion h,fun _=>⟨by rw[hs,TR Aq hgt,Rz Aq hlo],fun y hy=>Aq.tr _ _ _ hgt (hab y hy)⟩,rfl,rfl⟩)
        |exact again.mk ⟨_,by omega,i+1,_,_,_,_,_,P.take i,rfl,by omega,rfl,by rw[List.length_take];omega,hb,fun h=>Bool.noConfusion h,fun _=>⟨by rw[hs,Aav Aq hlo hc],fun y hy=>by have:=hab y hy;rw[hc]at this;exact this⟩,rfl,rfl⟩
        |exact again.mk ⟨_,by omega,i+1,_,_,_,_,_,P.take i++[P[i]],rfl,by omega,by rw[List.length_append,List.length_singleton],by rw[List.length_append,List.length_singleton,List.length_take];omega,fun h=>Bool.noConfusion h,fun _=>⟨hs.symm,htk hlo (by assumption)⟩,fun h=>Bool.noConfusion h,rfl,rfl⟩
  ·obtain⟨rfl,hhi⟩:=ht rfl
   have hgt:Op.bytesLess key (P[i]).key=true:=hhi _ (by rw[List.drop_eq_getElem_cons hlt];exact List.mem_cons_self)
   (conv=>whnf);repeat' (first|(refine Ih (x:=P[i]) OI (by simp) (by simp;omega) ?_;conv=>whnf)|(refine kA ?_;conv=>whnf)|(refine Br.mk (fun hc=>?_) fun hc=>?_<;>first|exact hc.elim|conv=>whnf)|(refine kB ?_))
   all_goals first
        |(exfalso;rw[hc,Aq.Nl]at hgt;cases hgt)
        |exact again.mk ⟨_,by omega,i+1,_,_,_,_,_,CO Op.bytesLess GP.key key (P.take i)++[P[i]],rfl,by omega,by simp,by simp;omega,fun h=>Bool.noConfusion h,fun h=>Bool.noConfusion h,fun _=>⟨by rw[hs,TR Aq hgt],fun y hy=>Aq.tr _ _ _ hgt (hab y hy)⟩,rfl,rfl⟩
 ·obtain rfl:i=P.length:=by omega
  rw[List.take_length]at hd ht
  cases d
  ·obtain⟨rfl,hlo⟩:=hd rfl
   rw[Rz Aq hlo]
   (conv=>whnf);repeat' (first|(refine Aa h0 ?_;rintro _ rfl;conv=>whnf)|(refine kA ?_;conv=>whnf)|(refine Br.mk (fun hc=>?_) fun hc=>?_<;>first|exact hc.elim|conv=>whnf)|(refine kB ?_))
   all_goals first|(exfalso;omega)|(refine ⟨b,hb,congrArg (fun z=>AV.BL [AV.sl b _,AV.bool z]) ?_⟩;symm;first|exact decide_eq_true (by omega)|exact decide_eq_false (by omega))
  ·obtain⟨rfl,_⟩:=ht rfl
   (conv=>whnf);repeat' (first  |(refine kA ?_;conv=>whnf)|(refine Br.mk (fun hc=>?_) fun hc=>?_<;>first|exact hc.elim|conv=>whnf)|(refine kB ?_))
   all_goals first|(exfalso;omega)|(refine ⟨b,hb,congrArg (fun z=>AV.BL [AV.sl b _,AV.bool z]) ?_⟩;symm;first|exact decide_eq_true (by omega)|exact decide_eq_false (by omega))
theorem AcA {l:List (List UInt8)} {nn:Bool} {x:List UInt8} (hl:l.length≤100000) (hI:Inc Op.bytesLess id l):Ae (Ad tab) 172 [.sl nn (vs .str l),.str x] (fun v=>∃b,(b=false→CO Op.bytesLess id x l=[])∧v=.sl b (vs .str (CO Op.bytesLess id x l))):=by
 rw[Kr Aq hI]
 refine Ac rfl rfl ?_
 (conv=>whnf);repeat' (first  |(refine kA ?_;conv=>whnf)|(refine Br.mk (fun hc=>?_) fun hc=>?_<;>first|exact hc.elim|conv=>whnf)|(refine kB ?_))
 refine Ag (fun m env s=>∃(i c go k:Nat) (b:Bool) (r:List (List UInt8)),m=l.length-i∧i≤l.length∧k=r.length∧r.length≤i∧(b=false→r=[])∧r=(l.take i).filter (fun a=>decide (id a≠x))∧env=[(0,.sl nn (vs .str l)),(1,.str x),(5,.own 0 go 0 k),(6,.int .i64 i)]∧s=⟨[.arr go 1 b true (vs .str r)],c⟩) ?_ _ _ _ ⟨0,_,_,0,_,[],rfl,by omega,rfl,by simp,fun _=>rfl,by simp,rfl,rfl⟩
 rintro _ _ _ ⟨i,c,go,k,b,r,rfl,hi,hk,hr,hb,hx,rfl,rfl⟩
 refine⟨rfl,?_⟩
 by_cases hlt:i<l.length
 ·have hs:=List.take_succ_eq_append_getElem hlt
  (conv=>whnf);repeat' (first|(refine Ih (x:=l[i]) (fun _=>rfl) hk (by omega) ?_;conv=>whnf)|(refine kA ?_;conv=>whnf)|(refine Br.mk (fun hc=>?_) fun hc=>?_<;>first|exact hc.elim|conv=>whnf)|(refine kB ?_))
  ·exact again.mk ⟨_,by omega,i+1,_,_,_,_,r,rfl,by omega,hk,by omega,hb,by rw[hs,List.filter_append,←hx,List.filter_cons_of_neg (by simpa using hc),List.filter_nil,List.append_nil],rfl,rfl⟩
  ·exact again.mk ⟨_,by omega,i+1,_,_,_,_,r++[l[i]],rfl,by omega,by simp,by simp;omega,fun h=>Bool.noConfusion h,by rw[hs,List.filter_append,←hx,List.filter_cons_of_pos (by simpa using hc),List.filter_nil],rfl,rfl⟩
 ·subst hk
  rw[List.take_of_length_le (by omega)]at hx
  (conv=>whnf);repeat' (first  |(refine kA ?_;conv=>whnf)|(refine Br.mk (fun hc=>?_) fun hc=>?_<;>first|exact hc.elim|conv=>whnf)|(refine kB ?_))
  subst hx
  exact⟨b,hb,by first|rfl|(rw [uV])⟩
theorem AeA {l:List (List UInt8)} {nn:Bool} {x:List UInt8} (hl:l.length≤100000) (hI:Inc Op.bytesLess id l) (hx:x∉l):Ae (Ad tab) 123 [.sl nn (vs .str l),.str x] (· =.sl true (vs .str (Ba Op.bytesLess id x l))):=by
 have hfin:∀i,i≤l.length→(∀ j (h:j<l.length),j<i→Op.bytesLess l[j] x=true)→(∀ h:i<l.length,Op.bytesLess l[i] x=false)→l.take i++[x]++l.drop i=Ba Op.bytesLess id x l:=by
  intro i hi hlo hhi
  refine AtK.ins Aq ⟨hi,hlo,fun j hj hij=>?_⟩ (fun y hy e=>hx (by cases e;exact hy))
  rcases Nat.lt_or_ge i j with h1|h1
  ·have h2:=hI.get h1 hj
   cases h3:Op.bytesLess (id l[j]) (id x)with
   |false=>rfl
   |true=>have:=Aq.tr _ _ _ h2 h3;have h4:=hhi (by omega);exact absurd this (by rw[show Op.bytesLess (id l[i]) (id x)=false from h4];exact Bool.noConfusion)
  ·obtain rfl:i=j:=by omega
   exact hhi hj
 refine Ac rfl rfl ?_
 (conv=>whnf);repeat' (first  |(refine kA ?_;conv=>whnf)|(refine Br.mk (fun hc=>?_) fun hc=>?_<;>first|exact hc.elim|conv=>whnf)|(refine kB ?_))
 refine Ag (fun m env s=>∃(i c go:Nat) (b:Bool),m=l.length-i∧i≤l.length∧(∀ j (h:j<l.length),j<i→Op.bytesLess l[j] x=true)∧env=[(0,.sl nn (vs .str l)),(1,.str x),(5,.own 0 go 0 0),(6,.int .i64 i)]∧s=⟨[.arr go 1 b true (vs .str [])],c⟩) ?_ _ _ _ ⟨0,_,_,_,rfl,by omega,fun j _ h=>absurd h (by omega),rfl,rfl⟩
 rintro _ _ _ ⟨i,c,go,b,rfl,hi,hlo,rfl,rfl⟩
 refine⟨rfl,?_⟩
 have h1:=hfin i hi hlo
 have hne:∀h:i<l.length,l[i]≠x:=fun h e=>hx (by rw[← e];exact List.getElem_mem h)
 (conv=>whnf);repeat' (first|((with_reducible show need _ _);refine need.mk ⟨by (try rw[lV]);omega,by(try rw[lV]);omega⟩ ?_;conv=>whnf)|((with_reducible show need _ _);refine need.mk (Gp X6 _) ?_;conv=>whnf)|((with_reducible show eqK _ _);apply BK;(· exact QI _ _ _);conv=>whnf)|(refine AkV rfl X6 (by first|rfl|(simp;done)|(simp;omega)) (by simp;omega) (by first|assumption|exact fun _=>rfl|exact fun h=>Bool.noConfusion h) ?_;intro b1 hb1;conv=>whnf)|(refine Ih (x:=x) X6 (by first|rfl|(simp;done)|(simp;omega)) (by simp;omega) ?_;conv=>whnf)|(refine kA ?_;conv=>whnf)|(refine Br.mk (fun hc=>?_) fun hc=>?_<;>first|exact hc.elim|conv=>whnf)|(refine kB ?_))
 all_goals first
  |exact again.mk ⟨_,by omega,i+1,_,_,_,rfl,by omega,fun j h hj=>by
        by_cases e:j=i
        ·subst e;assumption
        ·exact hlo j h (by omega),rfl,rfl⟩
  |(exfalso;exact hne (by omega) (by assumption))
  |(cases b1
    ·exact absurd (hb1 rfl) (by simp)
    ·rw[AeK]
     refine congrArg (fun z=>AV.sl true (vs .str z)) ?_
     rw[← h1 (fun h=>by first|assumption|(exfalso;omega))]
     simp[List.take_of_length_le])
theorem NU {α:Type} {l r:List α} {i:Nat} (h:i<l.length):nth (l++r) i=nth l i:=by
 rw[AX,AX,List.getElem?_append_left h]
theorem KH {α:Type} {l:List α} {x:α}:nth (l++[x]) l.length=some x:=by
 rw[AX,List.getElem?_append_right (Nat.le_refl _)];simp
theorem Gh {α:Type} {l:List α} {i:Nat} {x y:α} (h:nth l i=some y):nth (l.set i x) i=some x:=by
 rw[AX,List.getElem?_set_self (BX h)]
theorem MX {α:Type} {l:List α} {i j:Nat} {x:α} (h:i≠j):nth (l.set i x) j=nth l j:=by
 rw[AX,AX,List.getElem?_set_ne h]
def Rd (σ:List Obj) (D:Nat) (x y:AV):Prop:=∀m,D≤m→snap σ m x=some y
def Jq (σ:List Obj) (D:Nat) (xs ys:List AV):Prop:=∀m,D≤m→Fh σ m xs=some ys
theorem Rd.mono {σ:List Obj} {D D':Nat} {x y:AV} (h:Rd σ D x y) (hd:D≤D'):Rd σ D' x y:=fun m hm=>h m (by omega)
theorem Jq.mono {σ:List Obj} {D D':Nat} {x y:List AV} (h:Jq σ D x y) (hd:D≤D'):Jq σ D' x y:=fun m hm=>h m (by omega)
theorem Jq.nil {σ:List Obj}:Jq σ 0 [] []:=fun m _=>by cases m<;>rfl
theorem Jq.cons {σ:List Obj} {D:Nat} {x y:AV} {xs ys:List AV} (h:Rd σ D x y) (k:Jq σ D xs ys):Jq σ (D+1) (x::xs) (y::ys):=fun m hm=>by
 obtain⟨m,rfl⟩:∃m',m=m'+1:=⟨m-1,by omega⟩
 simp only[Fh,h m (by omega),k m (by omega)]
theorem Jq.map {α:Type} {σ:List Obj} {D:Nat} {f g:α→AV}:∀{l:List α},(∀ e∈l,Rd σ D (f e) (g e))→Jq σ (D+l.length) (vs f l) (vs g l)
 |[],_=>Jq.nil.mono (by omega)
 |e::l,h=>(Jq.cons ((h e (by simp)).mono (D':=D+l.length) (by omega)) (Jq.map fun x hx=>h x (by simp[hx]))).mono (by simp;omega)
theorem Rd.agg {σ:List Obj} {D:Nat} {xs ys:List AV} (h:Jq σ D xs ys):Rd σ (D+1) (.agg xs) (.agg ys):=fun m hm=>by
 obtain⟨m,rfl⟩:∃m',m=m'+1:=⟨m-1,by omega⟩
 simp only[snap,h m (by omega),Option.map_some]
theorem Rd.int {σ:List Obj} {k:IntKind} {z:Int}:Rd σ 1 (.int k z) (.int k z):=fun m hm=>by
 obtain⟨m,rfl⟩:∃m',m=m'+1:=⟨m-1,by omega⟩
 rfl
theorem Rd.str {σ:List Obj} {z:List UInt8}:Rd σ 1 (.str z) (.str z):=fun m hm=>by
 obtain⟨m,rfl⟩:∃m',m=m'+1:=⟨m-1,by omega⟩
 rfl
def Hd {α:Type} (f:α→AV) (es:Nat) (σ:List Obj) (v:AV) (b:Bool) (l:List α) (c:Bool):Prop:=
 (b=false∧l=[]∧(v=.sl false []∨∃o g es',v=.own o g 0 0∧nth σ o=some (.arr g es' false true [])))∨
 (b=true∧∃o g,v=.own o g 0 l.length∧nth σ o=some (.arr g es true c (vs f l)))
theorem Hd.lt {α:Type} {f:α→AV} {es:Nat} {σ:List Obj} {v:AV} {b c:Bool} {l:List α} (h:Hd f es σ v b l c):∀o∈v.obj,o<σ.length:=by
 intro o ho
 rcases h with⟨_,_,rfl|⟨o',g,es',rfl,h⟩⟩|⟨_,o',g,rfl,h⟩
 ·simp[AV.obj]at ho
 ·simp only[AV.obj,List.mem_singleton]at ho;subst ho;exact BX h
 ·simp only[AV.obj,List.mem_singleton]at ho;subst ho;exact BX h
theorem Hd.obj {α:Type} {f:α→AV} {es:Nat} {σ:List Obj} {v:AV} {b c:Bool} {l:List α} (h:Hd f es σ v b l c) {o:Nat} (ho:o∈v.obj):∃g es' nn c' xs,nth σ o=some (.arr g es' nn c' xs)∧(nn=true→es'=es):=by
 rcases h with⟨_,_,rfl|⟨o',g,es',rfl,h⟩⟩|⟨_,o',g,rfl,h⟩
 ·simp[AV.obj]at ho
 ·simp only[AV.obj,List.mem_singleton]at ho;subst ho;exact⟨_,_,_,_,_,h,by simp⟩
 ·simp only[AV.obj,List.mem_singleton]at ho;subst ho;exact⟨_,_,_,_,_,h,fun _=>rfl⟩
theorem Hd.keep {α:Type} {f:α→AV} {es:Nat} {σ σ':List Obj} {v:AV} {b c:Bool} {l:List α} (h:Hd f es σ v b l c) (hk:∀o∈v.obj,nth σ' o=nth σ o):Hd f es σ' v b l c:=by
 rcases h with⟨h1,h2,rfl|⟨o',g,es',rfl,h⟩⟩|⟨h1,o',g,rfl,h⟩
 ·exact .inl ⟨h1,h2,.inl rfl⟩
 ·exact .inl ⟨h1,h2,.inr ⟨o',g,es',rfl,by rw[hk o' (by simp[AV.obj]),h]⟩⟩
 ·exact .inr ⟨h1,o',g,rfl,by rw[hk o' (by simp[AV.obj]),h]⟩
theorem Hd.sn {α:Type} {f:α→AV} {es:Nat} {σ:List Obj} {v:AV} {b:Bool} {l:List α} (h:Hd f es σ v b l true):Rd σ 1 v (.sl b (vs f l)):=fun m hm=>by
 obtain⟨m,rfl⟩:∃m',m=m'+1:=⟨m-1,by omega⟩
 rcases h with⟨rfl,rfl,rfl|⟨o',g,es',rfl,h⟩⟩|⟨rfl,o',g,rfl,h⟩
 ·rfl
 ·simp[snap,h,sub,vs]
 ·have:sub (vs f l) 0 l.length=vs f l:=uV
  simp[snap,h,this]
theorem Hd.one {α:Type} {f:α→AV} {es:Nat} {σ:List Obj} {v:AV} {b c:Bool} {l:List α} (h:Hd f es σ v b l c):v.cells.length=1∧v.storable=true:=by
 rcases h with⟨_,_,rfl|⟨o',g,es',rfl,h⟩⟩|⟨_,o',g,rfl,h⟩<;>exact⟨rfl,rfl⟩
theorem Hd.bool {α:Type} {f:α→AV} {es:Nat} {σ:List Obj} {v:AV} {b c:Bool} {l:List α} (h:Hd f es σ v b l c):b=false→l=[]:=by
 rcases h with⟨_,h,_⟩|⟨h,_⟩
 ·exact fun _=>h
 ·intro h';rw[h']at h;cases h
theorem Hd.closed {α:Type} {f:α→AV} {es:Nat} {σ:List Obj} {v:AV} {b c:Bool} {l:List α} (h:Hd f es σ v b l c) (hc:v.closed=true):v=.sl false []∧b=false∧l=[]:=by
 rcases h with⟨h1,h2,rfl|⟨o',g,es',rfl,h⟩⟩|⟨_,o',g,rfl,h⟩
 ·exact⟨rfl,h1,h2⟩
 ·cases hc
 ·cases hc
structure EN where
 n:GN
 lv:AV
 pv:AV
def EN.av (e:EN):AV:=.agg [.int .i64 e.n.id,e.lv,e.pv]
def EN.objs (e:EN):List Nat:=e.lv.obj++e.pv.obj
def EN.Ok (σ:List Obj) (e:EN):Prop:=Hd .str 1 σ e.lv e.n.ln e.n.labels true∧Hd GP.av 6 σ e.pv e.n.pn e.n.props true
structure EE where
 e:GE
 pv:AV
def EE.av (e:EE):AV:=.agg [.int .i64 e.e.id,.int .i64 e.e.fr,.int .i64 e.e.to,.str e.e.ty,e.pv]
def EE.objs (e:EE):List Nat:=e.pv.obj
def EE.Ok (σ:List Obj) (e:EE):Prop:=Hd GP.av 6 σ e.pv e.e.pn e.e.props true
def BF (N:List EN) (E:List EE):List Nat:=N.flatMap EN.objs++E.flatMap EE.objs
structure Ed (σ:List Obj) (d gd:Nat) (vN vE:AV) (nb eb:Bool) (N:List EN) (E:List EE) (x y:Int):Prop where
 box:nth σ d=some (.arr gd 4 true false [.agg [vN,vE,.int .i64 x,.int .i64 y]])
 hn:∃c,Hd EN.av 3 σ vN nb N c∧(c=true→∀e∈N,e.av.closed=true)
 he:∃c,Hd EE.av 5 σ vE eb E c∧(c=true→∀e∈E,e.av.closed=true)
 hN:∀e∈N,e.Ok σ
 hE:∀e∈E,e.Ok σ
 nd:(d::(vN.obj++(vE.obj++BF N E))).Nodup
 oN:vN≠.sl false []
 oE:vE≠.sl false []
def Ja (nb eb:Bool) (N:List EN) (E:List EE) (x y:Int):GG:=⟨nb,N.map EN.n,eb,E.map EE.e,x,y⟩
theorem EN.sn {σ:List Obj} {e:EN} (h:e.Ok σ):Rd σ 5 e.av e.n.av:=
 Rd.agg (Jq.cons (Rd.int.mono (by omega)) (Jq.cons (h.1.sn.mono (by omega)) (Jq.cons (h.2.sn.mono (D':=1) (by omega)) (Jq.nil.mono (D':=1) (by omega)))))
theorem EE.sn {σ:List Obj} {e:EE} (h:e.Ok σ):Rd σ 7 e.av e.e.av:=
 Rd.agg (Jq.cons (Rd.int.mono (by omega)) (Jq.cons (Rd.int.mono (by omega)) (Jq.cons (Rd.int.mono (by omega)) (Jq.cons (Rd.str.mono (by omega)) (Jq.cons (h.sn.mono (D':=1) (by omega)) (Jq.nil.mono (D':=1) (by omega)))))))
theorem Hd.snE {α:Type} {f g:α→AV} {es D:Nat} {σ:List Obj} {v:AV} {b c:Bool} {l:List α} (h:Hd f es σ v b l c) (hs:∀e∈l,Rd σ D (f e) (g e)) (hc:c=true→∀e∈l,f e=g e):Rd σ (D+l.length+1) v (.sl b (vs g l)):=fun m hm=>by
 obtain⟨m,rfl⟩:∃m',m=m'+1:=⟨m-1,by omega⟩
 rcases h with⟨rfl,rfl,rfl|⟨o',g,es',rfl,h⟩⟩|⟨rfl,o',g',rfl,h⟩
 ·rfl
 ·simp[snap,h,sub,vs]
 ·have e1:sub (vs f l) 0 l.length=vs f l:=uV
  cases c with
  |false=>
   have:=Jq.map hs m (by omega)
   simp[snap,h,e1,this]
  |true=>
   have e2:vs f l=vs g l:=List.map_congr_left (hc rfl)
   simp[snap,h,e2,show sub (vs g l) 0 l.length=vs g l from uV]
theorem EN.OZ {σ:List Obj} {e:EN} (h:e.Ok σ) (hc:e.av.closed=true):e.av=e.n.av:=by
 simp only[EN.av,AV.closed,Dz,Bool.and_eq_true,Bool.and_true]at hc
 obtain⟨a1,a2,a3⟩:=h.1.closed hc.2.1
 obtain⟨b1,b2,b3⟩:=h.2.closed hc.2.2
 simp[EN.av,GN.av,a1,a2,a3,b1,b2,b3,vs]
theorem EE.OZ {σ:List Obj} {e:EE} (h:e.Ok σ) (hc:e.av.closed=true):e.av=e.e.av:=by
 simp only[EE.av,AV.closed,Dz,Bool.and_eq_true,Bool.and_true]at hc
 obtain⟨b1,b2,b3⟩:=h.closed hc.2.2.2.2
 simp[EE.av,GE.av,b1,b2,b3,vs]
section
variable {σ σ':List Obj} {d gd:Nat} {vN vE:AV} {nb eb:Bool} {N:List EN} {E:List EE} {x y:Int}
theorem Ed.snN (h:Ed σ d gd vN vE nb eb N E x y):Rd σ (5+N.length+1) vN (.sl nb (vs GN.av (N.map EN.n))):=by
 obtain⟨c,h1,h2⟩:=h.hn
 have:=h1.snE (g:=fun e=>e.n.av) (D:=5) (fun e he=>EN.sn (h.hN e he)) (fun hc e he=>EN.OZ (h.hN e he) (h2 hc e he))
 simpa[vs,Function.comp_def]using this
theorem Ed.snE (h:Ed σ d gd vN vE nb eb N E x y):Rd σ (7+E.length+1) vE (.sl eb (vs GE.av (E.map EE.e))):=by
 obtain⟨c,h1,h2⟩:=h.he
 have:=h1.snE (g:=fun e=>e.e.av) (D:=7) (fun e he=>EE.sn (h.hE e he)) (fun hc e he=>EE.OZ (h.hE e he) (h2 hc e he))
 simpa[vs,Function.comp_def]using this
theorem Ed.snL (h:Ed σ d gd vN vE nb eb N E x y):Jq σ (20+N.length+E.length) [vN,vE,.int .i64 x,.int .i64 y] [.sl nb (vs GN.av (N.map EN.n)),.sl eb (vs GE.av (E.map EE.e)),.int .i64 x,.int .i64 y]:=
 (Jq.cons (h.snN.mono (D':=N.length+E.length+15) (by omega)) (Jq.cons (h.snE.mono (D':=N.length+E.length+14) (by omega)) (Jq.cons (Rd.int.mono (D':=N.length+E.length+13) (by omega)) (Jq.cons (Rd.int.mono (D':=N.length+E.length+12) (by omega)) (Jq.nil.mono (by omega)))))).mono (by omega)
theorem Ed.snG (h:Ed σ d gd vN vE nb eb N E x y):Rd σ (21+N.length+E.length) (.agg [vN,vE,.int .i64 x,.int .i64 y]) (Ja nb eb N E x y).av:=(Rd.agg h.snL).mono (by omega)
theorem Ed.Pn (h:Ed σ d gd vN vE nb eb N E x y):Rd σ (21+N.length+E.length) (.ref d gd 0 0) (.CY (Ja nb eb N E x y).av.cells):=fun m hm=>by
 obtain⟨m,rfl⟩:∃m',m=m'+1:=⟨m-1,by omega⟩
 have:=h.snL m (by omega)
 simp[snap,h.box,nth,AV.cells,this,Ja,GG.av]
end
theorem Yr {a b:Int} (h:CJ a b<0):CB a b=true:=by simpa[CB]using Ns.1 h
theorem Yt {a b:Int} (h:¬CJ a b<0):CB a b=false:=by simpa[CB]using mt Ns.2 h
theorem AjX {n:GN} {x:Int}:Ae (Ad tab) 244 [n.av,.int .i64 x] (· =.int .i64 (CJ n.id x)):=by
 refine Ac rfl rfl ?_
 (conv=>whnf);repeat' (first|(refine kA ?_;conv=>whnf)|(refine Br.mk (fun hc=>?_) fun hc=>?_<;>first|exact hc.elim|conv=>whnf)|(refine Aa compare ?_;rintro _ rfl;conv=>whnf)|(refine kB ?_))
 rfl
theorem bsN {l:List GN} {nn:Bool} {x:Int} (hl:l.length<2^62) (hi:Inc CB GN.id l):Ae (Ad tab) 177 [.sl nn (vs GN.av l),.int .i64 x,.fn 244 []] (fun v=>∃(i:Nat) (b:Bool),v=.BL [.int .i64 i,.bool b]∧AtK CB GN.id x l i∧(b=true↔∃y∈l,GN.id y=x)):=by
 have fin:∀i:Nat,AtK CB GN.id x l i→((∃ y∈l,GN.id y=x)↔∃h:i<l.length,GN.id l[i]=x):=by
  intro i h
  constructor
  ·intro hf
   obtain⟨h1,h2,_⟩:=h.found Ar hi hf
   exact⟨h1,h2⟩
  ·rintro⟨h1,h2⟩
   exact⟨_,List.getElem_mem h1,h2⟩
 refine Ac rfl rfl ?_
 (conv=>whnf);repeat' (first|(refine kA ?_;conv=>whnf)|(refine Br.mk (fun hc=>?_) fun hc=>?_<;>first|exact hc.elim|conv=>whnf)  |(refine kB ?_))
 refine Ag (fun m env s=>∃(i j:Nat),m=j-i∧i≤j∧j≤l.length∧env=[(0,.sl nn (vs GN.av l)),(1,.int .i64 x),(2,.fn 244 []),(8,.int .i64 l.length),(9,.int .i64 i),(10,.int .i64 j)]∧s=⟨[],0⟩∧
  (∀ k (h:k<l.length),k<i→CB (GN.id l[k]) x=true)∧(∀ k (h:k<l.length),j≤k→CB (GN.id l[k]) x=false)) ?_ _ _ _ ⟨0,l.length,rfl,by omega,by omega,by simp,rfl,fun k _ h=>absurd h (by omega),fun k h1 h=>absurd h (by omega)⟩
 rintro _ _ _ ⟨i,j,rfl,hij,hj,rfl,rfl,h1,h2⟩
 refine⟨rfl,?_⟩
 have lo:∀{q:Nat} (hq:q<l.length),CB (GN.id l[q]) x=true→∀k (h:k<l.length),k<q+1→CB (GN.id l[k]) x=true:=fun{q} hq hm k hk hlt=>by
  rcases Nat.lt_or_ge k q with h|h
  ·exact(Ar).tr _ _ _ (hi.get h hq) hm
  ·obtain rfl:k=q:=by omega
   exact hm
 have up:∀{q:Nat} (hq:q<l.length),CB (GN.id l[q]) x=false→∀k (h:k<l.length),q≤k→CB (GN.id l[k]) x=false:=fun{q} hq hm k hk hle=>by
  rcases Nat.lt_or_ge q k with h|h
  ·cases h3:CB (GN.id l[k]) x
   ·rfl
   ·have:=(Ar).tr _ _ _ (hi.get h hk) h3
    rw[hm]at this;cases this
  ·obtain rfl:k=q:=by omega
   exact hm
 (conv=>whnf);repeat' (first|(refine Vb (i+j) (by omega) (by omega) ?_;conv=>whnf)|(apply BK;(· exact AaK _);conv=>whnf)|(refine Aa AjX ?_;rintro _ rfl;conv=>whnf)|(refine kA ?_;conv=>whnf)|(refine Br.mk (fun hc=>?_) fun hc=>?_<;>first|exact hc.elim|conv=>whnf)|(refine kB ?_))
 all_goals first
  |exact again.mk ⟨_,by omega,(i+j) / 2+1,j,rfl,by omega,hj,rfl,rfl,lo (by omega) (Yr hc),h2⟩
  |exact again.mk ⟨_,by omega,i,(i+j) / 2,rfl,by omega,by omega,rfl,rfl,h1,up (by omega) (Yt hc)⟩
  |skip
 all_goals
  obtain rfl:i=j:=by omega
  have ha:AtK CB GN.id x l i:=⟨by omega,h1,h2⟩
  have hf:=fin i ha
  first
   |exact⟨i,_,rfl,ha,fun _=>hf.2 ⟨by omega,Dq.1 hc⟩,fun _=>rfl⟩
   |exact⟨i,_,rfl,ha,fun h=>(by cases h),fun h=>(by obtain⟨_,e⟩:=hf.1 h;exact absurd (Dq.2 e) hc)⟩
   |exact⟨i,_,rfl,ha,fun h=>(by cases h),fun h=>by obtain⟨e,_⟩:=hf.1 h;omega⟩
end AI
end Go.Proofs.YtceiccjppfapjaaGreatDoor
