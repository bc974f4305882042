/- Looking up a key in strings: slices.BinarySearch, on memory that stays. A call of an entry that the model answers. Walks through what an editor calls: must, node, edge. Setting a property of a node or an edge that an editor edits. change.Check. What becomes of an edited graph when its store changes. An editor's change of a node. -/
import Derived.Test.YtgmgkkbpgndaaaaGreatDoorPMah
import Derived.Test.YtgmgkkbpgndaaaaGreatDoorPMaf
import Derived.Test.YtgmgkkbpgndaaaaGreatDoorPMai
import Derived.Test.YtgmgkkbpgndaaaaGreatDoorPVa
set_option linter.unusedVariables false
set_option maxRecDepth 4000
namespace Go.Proofs.YtgmgkkbpgndaaaaGreatDoor
namespace AI
theorem Aic {x y:List UInt8}:Af (Ad tab) 150 [.str x,.str y] (· =.bool (Op.bytesLess x y)):=by
 refine Ac rfl rfl ?_
 (conv=>whnf);repeat' (first|(refine Aa Ae4 ?_;rintro _ rfl;conv=>whnf)|(refine kA ?_;conv=>whnf)|(refine Br.mk (fun hc=>?_) fun hc=>?_<;>first|exact hc.elim|conv=>whnf)|(refine kB ?_))
 all_goals first|(rw [hc];rfl)|rfl|(exfalso;simp_all;done)
theorem AjU {x:List UInt8}:Af (Ad tab) 151 [.str x] (· =.bool false):=by
 refine Ac rfl rfl ?_
 (conv=>whnf);repeat' (first  |(refine kA ?_;conv=>whnf)|(refine Br.mk (fun hc=>?_) fun hc=>?_<;>first|exact hc.elim|conv=>whnf)|(refine kB ?_))
 all_goals first|rfl|(exfalso;simp_all)
theorem bsS {l:List (List UInt8)} {nn:Bool} {x:(List UInt8)} (hl:l.length<2^62) (hi:Inc Op.bytesLess id l):Af (Ad tab) 130 [.sl nn (vs .str l),.str x] (fun v=>∃(i:Nat) (b:Bool),v=.Cc [.int .i64 i,.bool b]∧AtK Op.bytesLess id x l i∧(b=true↔∃y∈l,id y=x)):=by
 have fin:∀i:Nat,AtK Op.bytesLess id x l i→((∃ y∈l,id y=x)↔∃h:i<l.length,id l[i]=x):=by
  intro i h
  constructor
  ·intro hf
   obtain⟨h1,h2,_⟩:=h.found Ah hi hf
   exact⟨h1,h2⟩
  ·rintro⟨h1,h2⟩
   exact⟨_,List.getElem_mem h1,h2⟩
 refine Ac rfl rfl ?_
 (conv=>whnf);repeat' (first|(refine kA ?_;conv=>whnf)|(refine Br.mk (fun hc=>?_) fun hc=>?_<;>first|exact hc.elim|conv=>whnf)  |(refine kB ?_))
 refine Ak (fun m env s=>∃(i j:Nat),m=j-i∧i≤j∧j≤l.length∧env=[(0,.sl nn (vs .str l)),(1,.str x),(6,.int .i64 l.length),(7,.int .i64 i),(8,.int .i64 j)]∧s=⟨[],0⟩∧
  (∀ k (h:k<l.length),k<i→Op.bytesLess (id l[k]) x=true)∧(∀ k (h:k<l.length),j≤k→Op.bytesLess (id l[k]) x=false)) ?_ _ _ _ ⟨0,l.length,rfl,by omega,by omega,by simp,rfl,fun k _ h=>absurd h (by omega),fun k h1 h=>absurd h (by omega)⟩
 rintro _ _ _ ⟨i,j,rfl,hij,hj,rfl,rfl,h1,h2⟩
 refine⟨rfl,?_⟩
 have lo:∀{q:Nat} (hq:q<l.length),Op.bytesLess (id l[q]) x=true→∀k (h:k<l.length),k<q+1→Op.bytesLess (id l[k]) x=true:=fun{q} hq hm k hk hlt=>by
  rcases Nat.lt_or_ge k q with h|h
  ·exact(Ah).tr _ _ _ (hi.get h hq) hm
  ·obtain rfl:k=q:=by omega
   exact hm
 have up:∀{q:Nat} (hq:q<l.length),Op.bytesLess (id l[q]) x=false→∀k (h:k<l.length),q≤k→Op.bytesLess (id l[k]) x=false:=fun{q} hq hm k hk hle=>by
  rcases Nat.lt_or_ge q k with h|h
  ·cases h3:Op.bytesLess (id l[k]) x
   ·rfl
   ·have:=(Ah).tr _ _ _ (hi.get h hk) h3
    rw[hm]at this;cases this
  ·obtain rfl:k=q:=by omega
   exact hm
 (conv=>whnf);repeat' (first|(refine Wp (i+j) (by omega) (by omega) ?_;conv=>whnf)|(apply F9;(· exact AbU _);conv=>whnf)|((first|refine Aa Aic ?_|refine Aa AjU ?_);rintro _ rfl;conv=>whnf)|(refine PG (fun hb=>?_) (fun hb=>?_)<;>conv=>whnf)|(refine kA ?_;conv=>whnf)|(refine Br.mk (fun hc=>?_) fun hc=>?_<;>first|exact hc.elim|conv=>whnf)|(refine kB ?_))
 all_goals first
  |exact again.mk ⟨_,by omega,(i+j) / 2+1,j,rfl,by omega,hj,rfl,rfl,lo (by omega) hb,h2⟩
  |exact again.mk ⟨_,by omega,i,(i+j) / 2,rfl,by omega,by omega,rfl,rfl,h1,up (by omega) hb⟩
  |skip
 all_goals
  obtain rfl:i=j:=by omega
  have ha:AtK Op.bytesLess id x l i:=⟨by omega,h1,h2⟩
  have hf:=fin i ha
  first
   |exact⟨i,_,rfl,ha,fun _=>hf.2 ⟨by omega,hc⟩,fun _=>rfl⟩
   |exact⟨i,_,rfl,ha,fun h=>(by cases h),fun h=>by obtain⟨_,e⟩:=hf.1 h;exact absurd e hc⟩
   |exact⟨i,_,rfl,ha,fun h=>(by cases h),fun h=>by obtain⟨e,_⟩:=hf.1 h;omega⟩
theorem LC {AP:Nat→Option H7} {f:Nat} {sp:List AV→Ap→Option (AA×Ap)} {args:List AV} {s s':Ap} {out:AA} {K:AA→Ap→Prop} (hf:AP f=some (.ext sp)) (h:sp args s=some (out,s')) (hK:K out s'):AQ AP f args s K:=
 ⟨1,out,s',by simp only[run,hf];exact h,hK⟩
theorem Eb {e:Int} {s:Ap} {K:AA→Ap→Prop} (h:K (.ok (.Cc [])) s):AQ (Ad tab) 127 [.bool true,.int .i64 e] s K:=by
 refine Am rfl rfl ?_
 (conv=>whnf);repeat' (first  |(refine kA ?_;conv=>whnf)|(refine Br.mk (fun hc=>?_) fun hc=>?_<;>first|exact hc.elim|conv=>whnf)|(refine kB ?_))
 exact h
theorem Iz {e:Int} {s:Ap} {K:AA→Ap→Prop} (h:K (.Dp (.iface 138 (.int .i64 e))) s):AQ (Ad tab) 127 [.bool false,.int .i64 e] s K:=by
 refine Am rfl rfl ?_
 (conv=>whnf);repeat' (first  |(refine kA ?_;conv=>whnf)|(refine Br.mk (fun hc=>?_) fun hc=>?_<;>first|exact hc.elim|conv=>whnf)|(refine kB ?_))
 exact h
theorem AbG {g:GG} {x:Int} (hl:g.nodes.length<2^62) (hi:Inc BU GN.id g.nodes):Af (Ad tab) 126 [.Ci g.av.cells,.int .i64 x] (fun v=>∃(i:Nat) (b:Bool),v=.Cc [.int .i64 i,.bool b]∧AtK BU GN.id x g.nodes i∧(b=true↔∃y∈g.nodes,GN.id y=x)):=by
 refine Ac rfl rfl ?_
 (conv=>whnf);repeat' (first|(refine Aa (bsN hl hi) ?_;rintro _ ⟨i,b,rfl,h1,h2⟩;conv=>whnf)|(refine kA ?_;conv=>whnf)|(refine Br.mk (fun hc=>?_) fun hc=>?_<;>first|exact hc.elim|conv=>whnf)|(refine kB ?_))
 all_goals exact⟨i,_,rfl,h1,by rw[hc]at h2;exact h2⟩
theorem AbH {g:GG} {x:Int} (hl:g.edges.length<2^62) (hi:Inc BU GE.id g.edges):Af (Ad tab) 134 [.Ci g.av.cells,.int .i64 x] (fun v=>∃(i:Nat) (b:Bool),v=.Cc [.int .i64 i,.bool b]∧AtK BU GE.id x g.edges i∧(b=true↔∃y∈g.edges,GE.id y=x)):=by
 refine Ac rfl rfl ?_
 (conv=>whnf);repeat' (first|(refine Aa (bsE hl hi) ?_;rintro _ ⟨i,b,rfl,h1,h2⟩;conv=>whnf)|(refine kA ?_;conv=>whnf)|(refine Br.mk (fun hc=>?_) fun hc=>?_<;>first|exact hc.elim|conv=>whnf)|(refine kB ?_))
 all_goals exact⟨i,_,rfl,h1,by rw[hc]at h2;exact h2⟩
structure Fr (σ σ':List Obj) (F:List Nat):Prop where
 len:σ.length≤σ'.length
 eq:∀o,o<σ.length→o∉F→nth σ' o=nth σ o
theorem Fr.refl {σ:List Obj} {F:List Nat}:Fr σ σ F:=⟨Nat.le_refl _,fun _ _ _=>rfl⟩
theorem Fr.trans {σ σ1 σ2:List Obj} {F:List Nat} (h:Fr σ σ1 F) (k:Fr σ1 σ2 F):Fr σ σ2 F:=
 ⟨Nat.le_trans h.len k.len,fun o ho hf=>(k.eq o (Nat.lt_of_lt_of_le ho h.len) hf).trans (h.eq o ho hf)⟩
theorem Fr.mono {σ σ':List Obj} {F F':List Nat} (h:Fr σ σ' F) (hf:∀o∈F,o∈F'∨σ.length≤o):Fr σ σ' F':=
 ⟨h.len,fun o ho hn=>h.eq o ho fun hm=>(hf o hm).elim hn fun h=>by omega⟩
theorem Fr.get {σ σ':List Obj} {F:List Nat} {o:Nat} {x:Obj} (h:Fr σ σ' F) (hx:nth σ o=some x) (hf:o∉F):nth σ' o=some x:=(h.eq o (BZ hx) hf).trans hx
theorem Cb {σ:List Obj} {y:Obj} {K:List Obj→Prop} (h:∀σ',Fr σ σ' []→nth σ' σ.length=some y→σ'.length=σ.length+1→K σ'):Zb σ y K:=
 (OA _ _ _).2 (h _ ⟨by simp,fun o ho _=>Nu ho⟩ KG (by simp))
theorem EG {σ:List Obj} {o:Nat} {x y:Obj} {K:List Obj→Prop} (hx:nth σ o=some x) (h:∀σ',Fr σ σ' [o]→nth σ' o=some y→σ'.length=σ.length→K σ'):QK σ o y K:=
 (FC _ _ _ _).2 (h _ ⟨by simp,fun p hp hn=>MI (by simpa using fun e=>hn (by simp[e]))⟩ (Gp hx) (by simp))
theorem Abu {AP:Nat→Option H7} {f es bytes:Nat} {x:AV} {s:Ap} {K:AA→Ap→Prop} (hf:AP f=some (.ext (Fe es bytes))) (hx:x.cells.length=es) (hb:bytes≤2 ^ 46)
 (h:∀σ',Fr s.σ σ' []→nth σ' s.σ.length=some (.arr s.ctr es true true [x])→K (.ok (.own s.σ.length s.ctr 0 1)) ⟨σ',s.ctr+1⟩):AQ AP f [.sl false [],.int .i64 0,.sl true [x]] s K:=
 LC hf (by simp only[Fe,hx,if_true];rw[if_pos ⟨trivial,hb⟩];rfl) (h _ ⟨by simp,fun o ho _=>Nu ho⟩ KG)
theorem Qg {AP:Nat→Option H7} {f es bytes es' o g:Nat} {x:AV} {s:Ap} {K:AA→Ap→Prop} (hf:AP f=some (.ext (Fe es bytes))) (hx:x.cells.length=es) (hb:bytes≤2 ^ 46) (ho:nth s.σ o=some (.arr g es' false true []))
 (h:∀σ',Fr s.σ σ' []→nth σ' s.σ.length=some (.arr s.ctr es true true [x])→K (.ok (.own s.σ.length s.ctr 0 1)) ⟨σ',s.ctr+1⟩):AQ AP f [.own o g 0 0,.int .i64 0,.sl true [x]] s K:=
 LC hf (by simp only[Fe,hx,ho,if_true];rw[if_pos ⟨trivial,trivial,trivial,hb⟩];rfl) (h _ ⟨by simp,fun o ho _=>Nu ho⟩ KG)
theorem UK {α:Type} {fv:α→AV} {AP:Nat→Option H7} {f es bytes o g i n:Nat} {c:Bool} {l:List α} {x:α} {s:Ap} {K:AA→Ap→Prop} (hf:AP f=some (.ext (Fe es bytes))) (hx:(fv x).cells.length=es) (hb:(n+1)*bytes≤2 ^ 46) (hn:n=l.length) (hi:i≤n) (ho:nth s.σ o=some (.arr g es true c (vs fv l)))
 (h:∀σ',Fr s.σ σ' [o]→nth σ' o=some (.arr s.ctr es true c (vs fv (l.take i++[x]++l.drop i)))→K (.ok (.own o s.ctr 0 (n+1))) ⟨σ',s.ctr+1⟩):AQ AP f [.own o g 0 n,.int .i64 i,.sl true [fv x]] s K:=by
 subst hn
 have e1:((vs fv l).take l.length)=vs fv l:=List.take_of_length_le (by simp)
 refine LC hf (by simp only[Fe,hx,ho,if_true,Bool.true_eq_false,if_false];rw[if_pos ⟨trivial,trivial,by omega,by simpa using hi,by simp,hb⟩]) (h _ ⟨by simp,fun p hp hn=>MI (by simpa using fun e=>hn (by simp[e]))⟩ ?_)
 rw[Gp ho]
 simp only[Int.toNat_natCast,e1]
 simp[vs,List.map_take,List.map_drop]
theorem QL {α:Type} {fv:α→AV} {AP:Nat→Option H7} {f es o g i n:Nat} {c:Bool} {z:Int} {l:List α} {s:Ap} {K:AA→Ap→Prop} (hf:AP f=some (.ext (delSpec es))) (hn:n=l.length) (hi:i<n) (hz:z=(i:Int)+1) (ho:nth s.σ o=some (.arr g es true c (vs fv l)))
 (h:∀σ',Fr s.σ σ' [o]→nth σ' o=some (.arr s.ctr es true c (vs fv (l.take i++l.drop (i+1))))→K (.ok (.own o s.ctr 0 (i+(n-(i+1))))) ⟨σ',s.ctr+1⟩):AQ AP f [.own o g 0 n,.int .i64 i,.int .i64 z] s K:=by
 subst hn hz
 have e1:((vs fv l).take l.length)=vs fv l:=List.take_of_length_le (by simp)
 have e2:((i:Int)+1).toNat=i+1:=by omega
 refine LC hf (by simp only[delSpec,ho];rw[if_pos ⟨trivial,trivial,by omega,by omega,by omega,by simp⟩]) ?_
 simp only[Int.toNat_natCast,e1,e2]
 refine h _ ⟨by simp,fun p hp hn=>MI (by simpa using fun e=>hn (by simp[e]))⟩ ?_
 rw[Gp ho]
 simp[vs,List.map_take,List.map_drop]
theorem VU {v:GV} (hv:v.ok) (h:isNull v):Af (Ad tab) 125 [v.av] (· =.bool true):=by
 refine Ac rfl rfl ?_
 (conv=>whnf);repeat' (first|(refine Aa (Zc hv) ?_;rintro _ ⟨z,rfl,hz⟩;conv=>whnf)|(refine kA ?_;conv=>whnf)|(refine Br.mk (fun hc=>?_) fun hc=>?_<;>first|exact hc.elim|conv=>whnf)|(refine kB ?_))
 all_goals first|rfl|exact absurd (hz.2 h) hc
theorem VW {v:GV} (hv:v.ok) (h:¬isNull v):Af (Ad tab) 125 [v.av] (· =.bool false):=by
 refine Ac rfl rfl ?_
 (conv=>whnf);repeat' (first|(refine Aa (Zc hv) ?_;rintro _ ⟨z,rfl,hz⟩;conv=>whnf)|(refine kA ?_;conv=>whnf)|(refine Br.mk (fun hc=>?_) fun hc=>?_<;>first|exact hc.elim|conv=>whnf)|(refine kB ?_))
 all_goals first|rfl|exact absurd (hz.1 hc) h
set_option maxHeartbeats 1000000 in
theorem Ahq {σ:List Obj} {c:Nat} {lv:AV} {b:Bool} {l:List GP} {k:List UInt8} {v:GV} {K:AA→Ap→Prop} (h:Hd GP.av 6 σ lv b l true) (hi:Inc Op.bytesLess GP.key l) (hl:l.length≤100) (hv:v.ok)
 (hA:isNull v→∀σ' c' Zd,Hd GP.av 6 σ' Zd b (Cj Op.bytesLess GP.key k l) true→Fr σ σ' lv.obj→(∀ o∈Zd.obj,o∈lv.obj∨σ.length≤o)→K (.ok Zd) ⟨σ',c'⟩)
 (hB:¬isNull v→((∃ y∈l,GP.key y=k)∨l.length<16)→∀σ' c' Zd,Hd GP.av 6 σ' Zd true (AY Op.bytesLess GP.key ⟨k,v⟩ l) true→Fr σ σ' lv.obj→(∀ o∈Zd.obj,o∈lv.obj∨σ.length≤o)→K (.ok Zd) ⟨σ',c'⟩)
 (hC:¬isNull v→(¬ ∃y∈l,GP.key y=k)→¬l.length<16→∀σ' c',Fr σ σ' []→K (.Dp (.iface 138 (.int .i64 20))) ⟨σ',c'⟩):
 AQ (Ad tab) 133 [lv,.str k,v.av] ⟨σ,c⟩ K:=by
 rcases h with⟨rfl,rfl,h⟩|⟨rfl,o,g,rfl,ho⟩
 ·have hbs:∀{nn:Bool},Af (Ad tab) 154 [.sl nn (vs GP.av []),.str k,.fn 155 []] (· =.Cc [.int .i64 (0:Nat),.bool false]):=fun{nn}=>by
   refine(bsP (l:=[]) (nn:=nn) (x:=k) (by simp) List.Pairwise.nil).mono ?_
   rintro _ ⟨i,fb,rfl,q1,q2⟩
   obtain rfl:i=0:=by have:=q1.le;simpa using this
   cases fb
   ·rfl
   ·exact absurd (q2.1 rfl) (by simp)
  have fin:∀σ1 σ2 c',Fr σ σ1 []→Fr σ1 σ2 []→nth σ2 σ1.length=some (.arr c' 6 true true [GP.av ⟨k,v⟩])→¬isNull v→lv.obj=[]∨True→K (.ok (.own σ1.length c' 0 1)) ⟨σ2,c'+1⟩:=fun σ1 σ2 c' f1 f2 h2 hn _=>
   hB hn (.inr (by simp)) _ _ _ (.inr ⟨rfl,_,_,rfl,h2⟩) ((f1.trans f2).mono (by simp)) (fun o ho=>by simp only[AV.obj,List.mem_singleton]at ho;subst ho;exact .inr f1.len)
  rcases h with rfl|⟨o,g,es',rfl,ho⟩
  ·by_cases hn:isNull v
   ·refine Am rfl rfl ?_
    (conv=>whnf);repeat' (first|(refine Cb fun σ1 f1 h1 l1=>?_;conv=>whnf)|((first|refine Aa hbs ?_|refine Aa (VU hv hn) ?_);rintro _ rfl;conv=>whnf)|(rw [h1];conv=>whnf)|(refine kA ?_;conv=>whnf)|(refine Br.mk (fun hc=>?_) fun hc=>?_<;>first|exact hc.elim|conv=>whnf)|(refine kB ?_))
    exact hA hn _ _ (.sl false []) (.inl ⟨rfl,rfl,.inl rfl⟩) (f1.mono (by simp)) (fun o ho=>by simp[AV.obj]at ho)
   ·refine Am rfl rfl ?_
    (conv=>whnf);repeat' (first|(refine Cb fun σ1 f1 h1 l1=>?_;conv=>whnf)|((first|refine Aa hbs ?_|refine Aa (VW hv hn) ?_);rintro _ rfl;conv=>whnf)|(rw [h1];conv=>whnf)|(refine Eb ?_;conv=>whnf)|(refine Abu (x:=GP.av ⟨k,v⟩) rfl rfl (by omega) fun σ2 f2 h2=>?_;conv=>whnf)|(refine kA ?_;conv=>whnf)|(refine Br.mk (fun hc=>?_) fun hc=>?_<;>first|exact hc.elim|conv=>whnf)|(refine kB ?_))
    all_goals first|exact fin _ _ _ f1 f2 h2 hn (.inr trivial)
  ·by_cases hn:isNull v
   ·refine Am rfl rfl ?_
    (conv=>whnf);repeat' (first|(refine Cb fun σ1 f1 h1 l1=>?_;have ho1:=f1.get ho (by simp);conv=>whnf)|((first|refine Aa hbs ?_|refine Aa (VU hv hn) ?_);rintro _ rfl;conv=>whnf)|(rw [h1];conv=>whnf)|(rw [ho1];conv=>whnf)|(refine kA ?_;conv=>whnf)|(refine Br.mk (fun hc=>?_) fun hc=>?_<;>first|exact hc.elim|conv=>whnf)|(refine kB ?_))
    all_goals first|exact hA hn _ _ _ (.inl ⟨rfl,rfl,.inr ⟨_,_,_,rfl,ho1⟩⟩) (f1.mono (by simp)) (fun o ho=>.inl ho)
   ·refine Am rfl rfl ?_
    (conv=>whnf);repeat' (first|(refine Cb fun σ1 f1 h1 l1=>?_;have ho1:=f1.get ho (by simp);conv=>whnf)|((first|refine Aa hbs ?_|refine Aa (VW hv hn) ?_);rintro _ rfl;conv=>whnf)|(rw [h1];conv=>whnf)|(rw [ho1];conv=>whnf)|(refine Eb ?_;conv=>whnf)|(refine Qg (x:=GP.av ⟨k,v⟩) rfl rfl (by omega) ho1 fun σ2 f2 h2=>?_;conv=>whnf)|(refine kA ?_;conv=>whnf)|(refine Br.mk (fun hc=>?_) fun hc=>?_<;>first|exact hc.elim|conv=>whnf)|(refine kB ?_))
    all_goals first|exact fin _ _ _ f1 f2 h2 hn (.inr trivial)
 ·have hlen:l.length<2 ^ 62:=by omega
  have hbs:=fun(nn:Bool)=>(bsP (nn:=nn) (x:=k) hlen hi)
  by_cases hf:∃y∈l,GP.key y=k
  ·have hbt:∃i,AtK Op.bytesLess GP.key k l i∧Af (Ad tab) 154 [.sl true (vs GP.av l),.str k,.fn 155 []] (· =.Cc [.int .i64 (i:Nat),.bool true]):=by
        obtain⟨_,⟨i,fb,rfl,q1,q2⟩,hd⟩:=(hbs true).He
        rw[q2.2 hf]at hd
        exact⟨i,q1,hd⟩
   obtain⟨i,q1,hbt⟩:=hbt
   obtain⟨hil,hik,_⟩:=q1.found Ah hi hf
   by_cases hn:isNull v
   ·refine Am rfl rfl ?_
    (conv=>whnf);repeat' (first|(refine Cb fun σ1 f1 h1 l1=>?_;have ho1:=f1.get ho (by simp);conv=>whnf)|((first|refine Aa hbt ?_|refine Aa (VU hv hn) ?_);rintro _ rfl;conv=>whnf)|(rw [h1];conv=>whnf)|(rw [ho1];conv=>whnf)|(refine QL rfl rfl hil rfl ho1 fun σ2 f2 h2=>?_;conv=>whnf)|(refine kA ?_;conv=>whnf)|(refine Br.mk (fun hc=>?_) fun hc=>?_<;>first|exact hc.elim|conv=>whnf)|(refine kB ?_))
    all_goals first
     |(rw [q1.del Ah hi hf]at h2
       have hlen2:i+(l.length-(i+1))=(Cj Op.bytesLess GP.key k l).length:=by rw[← q1.del Ah hi hf,List.length_append,List.length_take,List.length_drop];omega
       exact hA hn _ _ _ (.inr ⟨rfl,_,_,by rw[← hlen2];rfl,h2⟩) ((f1.mono (by simp)).trans f2) (fun o ho=>.inl ho))
   ·refine Am rfl rfl ?_
    (conv=>whnf);repeat' (first|(refine Cb fun σ1 f1 h1 l1=>?_;have ho1:=f1.get ho (by simp);conv=>whnf)|((first|refine Aa hbt ?_|refine Aa (VW hv hn) ?_);rintro _ rfl;conv=>whnf)|(rw [h1];conv=>whnf)|(rw [ho1];conv=>whnf)|(refine EG ho1 fun σ2 f2 h2 l2=>?_;conv=>whnf)|(refine kA ?_;conv=>whnf)|(refine Br.mk (fun hc=>?_) fun hc=>?_<;>first|exact hc.elim|conv=>whnf)|(refine kB ?_))
    have e:(vs GP.av l).set (Int.toNat (i:Int)) (BI (l[i]).av (0+1) (AV.agg (List.take 5 (List.drop 0 v.av.cells))))=vs GP.av (AY Op.bytesLess GP.key ⟨k,v⟩ l):=by
     have e0:BI (l[i]).av (0+1) (AV.agg (List.take 5 (List.drop 0 v.av.cells)))=GP.av ⟨(l[i]).key,v⟩:=rfl
     rw[e0,hik,←q1.set (x:=⟨k,v⟩) Ah hi hf]
     simp[vs,List.map_set]
    replace h2:nth σ2 o=some (.arr g 6 true true (vs GP.av (AY Op.bytesLess GP.key ⟨k,v⟩ l))):=by rw[← e];exact h2
    have hlen2:l.length=(AY Op.bytesLess GP.key ⟨k,v⟩ l).length:=by rw[← q1.set (x:=⟨k,v⟩) Ah hi hf,List.length_set]
    exact hB hn (.inl hf) _ _ _ (.inr ⟨rfl,_,_,by rw[← hlen2];rfl,h2⟩) ((f1.mono (by simp)).trans f2) (fun o ho=>.inl ho)
  ·have hbt:∃i,AtK Op.bytesLess GP.key k l i∧Af (Ad tab) 154 [.sl true (vs GP.av l),.str k,.fn 155 []] (· =.Cc [.int .i64 (i:Nat),.bool false]):=by
        obtain⟨_,⟨i,fb,rfl,q1,q2⟩,hd⟩:=(hbs true).He
        cases fb
        ·exact⟨i,q1,hd⟩
        ·exact absurd (q2.1 rfl) hf
   obtain⟨i,q1,hbt⟩:=hbt
   have hil:=q1.le
   by_cases hn:isNull v
   ·refine Am rfl rfl ?_
    (conv=>whnf);repeat' (first|(refine Cb fun σ1 f1 h1 l1=>?_;have ho1:=f1.get ho (by simp);conv=>whnf)|((first|refine Aa hbt ?_|refine Aa (VU hv hn) ?_);rintro _ rfl;conv=>whnf)|(rw [h1];conv=>whnf)|(rw [ho1];conv=>whnf)|(refine kA ?_;conv=>whnf)|(refine Br.mk (fun hc=>?_) fun hc=>?_<;>first|exact hc.elim|conv=>whnf)|(refine kB ?_))
    all_goals first
     |(have e:Cj Op.bytesLess GP.key k l=l:=by
           rw[Cj,←q1.take,←q1.TJ Ah (fun x hx e=>hf ⟨x,hx,e⟩),List.take_append_drop]
       exact hA hn _ _ _ (by rw[e];exact .inr ⟨rfl,_,_,rfl,ho1⟩) (f1.mono (by simp)) (fun o ho=>.inl ho))
   ·refine Am rfl rfl ?_
    (conv=>whnf);repeat' (first|(refine Cb fun σ1 f1 h1 l1=>?_;have ho1:=f1.get ho (by simp);conv=>whnf)|((first|refine Aa hbt ?_|refine Aa (VW hv hn) ?_);rintro _ rfl;conv=>whnf)|(rw [h1];conv=>whnf)|(rw [ho1];conv=>whnf)|(refine Eb ?_;conv=>whnf)|(refine Iz ?_;conv=>whnf)|(refine UK (fv:=GP.av) (x:=⟨k,v⟩) rfl rfl (by omega) rfl hil ho1 fun σ2 f2 h2=>?_;conv=>whnf)|(refine kA ?_;conv=>whnf)|(refine Br.mk (fun hc=>?_) fun hc=>?_<;>first|exact hc.elim|conv=>whnf)|(refine kB ?_))
    all_goals first
     |exact hC hn hf (by omega) _ _ f1
     |(rw [q1.ins (x:=⟨k,v⟩) Ah (fun x hx e=>hf ⟨x,hx,e⟩)]at h2
       have hlen2:l.length+1=(AY Op.bytesLess GP.key ⟨k,v⟩ l).length:=by rw[← q1.ins (x:=⟨k,v⟩) Ah (fun x hx e=>hf ⟨x,hx,e⟩),List.length_append,List.length_append,List.length_take,List.length_drop,List.length_singleton];omega
       exact hB hn (.inr (by omega)) _ _ _ (.inr ⟨rfl,_,_,by rw[← hlen2];rfl,h2⟩) ((f1.mono (by simp)).trans f2) (fun o ho=>.inl ho))
def P5 (op:Int):Prop:=op=3∨op=4∨op=5∨op=6∨op=8
instance (op:Int):Decidable (P5 op):=by unfold P5;infer_instance
def SV (op:Int):Prop:=op=5∨op=8
instance (op:Int):Decidable (SV op):=by unfold SV;infer_instance
def KI (z:Int):Prop:=1≤z∧z≤1000000
instance (z:Int):Decidable (KI z):=by unfold KI;infer_instance
def FP (c:GC):Prop:=¬(1≤c.op∧c.op≤8)∨¬KI c.id∨(¬ P5 c.op∧c.name≠[])∨(¬ SV c.op∧¬isNull c.v)∨(c.op=6∧(¬ KI c.fr∨¬KI c.to))∨(c.op≠6∧(c.fr≠0∨c.to≠0))
instance (c:GC):Decidable (FP c):=by unfold FP;infer_instance
def Iq (c:GC):Int:=if FP c then 1 else if P5 c.op∧¬isName c.name then 6 else if SV c.op∧¬isNull c.v∧¬DX c.v then 8 else 0
theorem Abz {c:GC} (h:Iq c=0):(1≤c.op∧c.op≤8)∧KI c.id∧(P5 c.op→isName c.name)∧(c.op=6→KI c.fr∧KI c.to)∧(SV c.op→isNull c.v∨DX c.v):=by
 unfold Iq at h
 split at h
 ·cases h
 rename_i h1
 split at h
 ·cases h
 rename_i h2
 split at h
 ·cases h
 rename_i h3
 simp only[FP,not_or,Classical.not_not,not_and]at h1 h2 h3
 refine⟨by omega,h1.2.1,fun hn=>h2 hn,fun h6=>?_,fun hv=>?_⟩
 ·have:=h1.2.2.2.2.1 h6;exact this
 ·by_cases hn:isNull c.v
  ·exact .inl hn
  ·exact .inr (h3 hv hn)
theorem idP {z:Int}:Af (Ad tab) 124 [.int .i64 z] (· =.bool (decide (KI z))):=by
 refine Ac rfl rfl ?_
 (conv=>whnf);repeat' (first  |(refine kA ?_;conv=>whnf)|(refine Br.mk (fun hc=>?_) fun hc=>?_<;>first|exact hc.elim|conv=>whnf)|(refine kB ?_))
 all_goals first|exact Bv (by unfold KI;omega)|exact AB (by unfold KI;omega)
theorem AeR {op:Int}:Af (Ad tab) 123 [.int .i64 op] (· =.Cc [.agg [.bool (decide (op=6)),.bool (decide (P5 op)),.bool (decide (SV op))],.bool (decide (1≤op∧op≤8))]):=by
 refine Ac rfl rfl ?_
 (conv=>whnf);repeat' (first  |(refine kA ?_;conv=>whnf)|(refine Br.mk (fun hc=>?_) fun hc=>?_<;>first|exact hc.elim|conv=>whnf)|(refine kB ?_))
 all_goals first
  |(subst_vars;rfl)
  |(have e1:decide (op=6)=false:=decide_eq_false (by omega)
    have e2:decide (P5 op)=false:=decide_eq_false (by unfold P5;omega)
    have e3:decide (SV op)=false:=decide_eq_false (by unfold SV;omega)
    have e4:decide (1≤op∧op≤8)=false:=decide_eq_false (by omega)
    rw[e1,e2,e3,e4];rfl)
theorem AiG {v:GV} (hv:v.ok):Af (Ad tab) 125 [v.av] (· =.bool (decide (isNull v))):=by
 by_cases h:isNull v
 ·rw[decide_eq_true h];exact VU hv h
 ·rw[decide_eq_false h];exact VW hv h
set_option maxHeartbeats 8000000 in
theorem AiB {c:GC} (h:c.ok):Af (Ad tab) 89 [c.av] (· =.int .i64 (Iq c)):=by
 obtain⟨op,z,fr,to,nm,v⟩:=c
 obtain⟨h1,h2,h3,h4,h5,h6⟩:=h
 have hn:=name1 (s:=nm) (by have:=h5;simp only[Ln]at this;omega)
 have hp:=Ab6 (v:=v) h6
 have hu:=AiG (v:=v) h6
 have hf:=AeR (op:=op)
 have e1:=Iq
 have hd:op=1∨op=2∨op=3∨op=4∨op=5∨op=6∨op=7∨op=8∨¬(1≤op∧op≤8):=by omega
 rcases hd with rfl|rfl|rfl|rfl|rfl|rfl|rfl|rfl|hd
 all_goals
  clear e1
  refine Ac rfl rfl ?_
  show vC _ _ [(0,.agg [.int .i64 _,.int .i64 z,.int .i64 fr,.int .i64 to,.str nm,.int .i64 v.k,.int .i64 v.n,.int .i64 v.d,.str v.s,.sl v.nn v.l])] _ _
  (conv=>whnf);repeat' (first|(refine Aa hf ?_;rintro _ rfl;conv=>whnf)|(refine BM idP (fun hi=>?_) (fun hi=>?_)<;>conv=>whnf)|(refine BM hu (fun hz=>?_) (fun hz=>?_)<;>conv=>whnf)|(refine BM hn (fun hx=>?_) (fun hx=>?_)<;>conv=>whnf)|(refine BM hp (fun hy=>?_) (fun hy=>?_)<;>conv=>whnf)|(refine kA ?_;conv=>whnf)|(refine Br.mk (fun hc=>?_) fun hc=>?_<;>first|exact hc.elim|conv=>whnf)|(refine kB ?_))
 all_goals first
  |(exfalso;omega)
  |exact absurd (of_decide_eq_true (by assumption)) hd
  |(refine congrArg (AV.int .i64) ?_;simp_all [Iq,FP,P5,SV];done)
theorem Hd.diff {α:Type} {f:α→AV} {es:Nat} {σ:List Obj} {v:AV} {b c:Bool} {l:List α} (h:Hd f es σ v b l c) {o g es':Nat} {c':Bool} {xs:List AV} (ho:nth σ o=some (.arr g es' true c' xs)) (hne:es'≠es):o∉v.obj:=by
 intro hm
 obtain⟨g1,e1,nn,c1,x1,h1,h2⟩:=h.obj hm
 rw[ho]at h1
 simp only[Option.some.injEq,Obj.arr.injEq]at h1
 obtain⟨_,rfl,rfl,_,_⟩:=h1
 exact hne (h2 rfl)
theorem Hd.nodup {α:Type} {f:α→AV} {es:Nat} {σ:List Obj} {v:AV} {b c:Bool} {l:List α} (h:Hd f es σ v b l c):v.obj.Nodup:=by
 rcases h with⟨_,_,rfl|⟨o',g,es',rfl,h⟩⟩|⟨_,o',g,rfl,h⟩<;>simp[AV.obj]
theorem J7 {A B B' C:List Nat} {n:Nat} (h:(A++B++C).Nodup) (hb:B'.Nodup) (hB:∀o∈B',o∈B∨n≤o) (hlt:∀o,o∈A∨o∈C→o<n):(A++B'++C).Nodup:=by
 rw[List.nodup_append,List.nodup_append]at h ⊢
 obtain⟨⟨h1,h2,h3⟩,h4,h5⟩:=h
 refine⟨⟨h1,hb,fun a ha b hb'=>?_⟩,h4,fun a ha b hb'=>?_⟩
 ·rcases hB b hb' with h|h
  ·exact h3 a ha b h
  ·have:=hlt a (.inl ha);omega
 ·rcases List.mem_append.1 ha with ha|ha
  ·exact h5 a (List.mem_append_left _ ha) b hb'
  ·rcases hB a ha with h|h
   ·exact h5 a (List.mem_append_right _ h) b hb'
   ·have:=hlt b (.inr hb');omega
theorem EN.Ok.lt {σ:List Obj} {e:EN} (h:e.Ok σ):∀o∈e.objs,o<σ.length:=fun o ho=>by
 rcases List.mem_append.1 ho with ho|ho
 ·exact h.1.lt o ho
 ·exact h.2.lt o ho
theorem EE.Ok.lt {σ:List Obj} {e:EE} (h:e.Ok σ):∀o∈e.objs,o<σ.length:=fun o ho=>Hd.lt h o ho
theorem EN.Ok.keep {σ σ':List Obj} {e:EN} (h:e.Ok σ) (hk:∀o∈e.objs,nth σ' o=nth σ o):e.Ok σ':=
 ⟨h.1.keep fun o ho=>hk o (List.mem_append_left _ ho),h.2.keep fun o ho=>hk o (List.mem_append_right _ ho)⟩
theorem EE.Ok.keep {σ σ':List Obj} {e:EE} (h:e.Ok σ) (hk:∀o∈e.objs,nth σ' o=nth σ o):e.Ok σ':=Hd.keep h hk
section
variable {σ σ':List Obj} {d gd:Nat} {vN vE:AV} {nb eb:Bool} {N:List EN} {E:List EE} {x y:Int}
theorem JI {α:Type} {f:α→List Nat} {l:List α} {i:Nat} (hi:i<l.length):l.flatMap f=(l.take i).flatMap f++(f l[i]++(l.drop (i+1)).flatMap f):=by
 have e:l.take i++l[i]::l.drop (i+1)=l:=by rw[← List.drop_eq_getElem_cons hi,List.take_append_drop]
 rw[← List.flatMap_cons,←List.flatMap_append,e]
theorem JR {N:List EN} {E:List EE} {i:Nat} (hi:i<N.length):BG N E=(N.take i).flatMap EN.objs++(N[i]).objs++((N.drop (i+1)).flatMap EN.objs++E.flatMap EE.objs):=by
 rw[BG,JI hi]
 simp only[List.append_assoc]
theorem Lh {N:List EN} {E:List EE} {i:Nat} (hi:i<E.length):BG N E=(N.flatMap EN.objs++(E.take i).flatMap EE.objs)++(E[i]).objs++(E.drop (i+1)).flatMap EE.objs:=by
 rw[BG,JI hi]
 simp only[List.append_assoc]
theorem Iw {N:List EN} {E:List EE} {e:EN} (he:e∈N) {o:Nat} (ho:o∈e.objs):o∈BG N E:=List.mem_append_left _ (List.mem_flatMap.2 ⟨e,he,ho⟩)
theorem Jw {N:List EN} {E:List EE} {e:EE} (he:e∈E) {o:Nat} (ho:o∈e.objs):o∈BG N E:=List.mem_append_right _ (List.mem_flatMap.2 ⟨e,he,ho⟩)
theorem Ed.fr (h:Ed σ d gd vN vE nb eb N E x y) {F:List Nat} (hF:Fr σ σ' F) (ho:∀o∈d::(vN.obj++(vE.obj++BG N E)),o∉F):Ed σ' d gd vN vE nb eb N E x y:=by
 obtain⟨cn,hn1,hn2⟩:=h.hn
 obtain⟨ce,he1,he2⟩:=h.he
 exact⟨hF.get h.box (ho _ (by simp)),⟨cn,hn1.keep fun o hm=>hF.eq o (hn1.lt o hm) (ho o (by simp[hm])),hn2⟩,⟨ce,he1.keep fun o hm=>hF.eq o (he1.lt o hm) (ho o (by simp[hm])),he2⟩,
  fun e he=>(h.hN e he).keep fun o hm=>hF.eq o ((h.hN e he).lt o hm) (ho o (by simp[Iw (E:=E) he hm])),
  fun e he=>(h.hE e he).keep fun o hm=>hF.eq o ((h.hE e he).lt o hm) (ho o (by simp[Jw (N:=N) he hm])),h.nd,h.oN,h.oE⟩
theorem Ed.LZ (h:Ed σ d gd vN vE nb eb N E x y) (hF:Fr σ σ' []):Ed σ' d gd vN vE nb eb N E x y:=h.fr hF (by simp)
theorem Ed.MZ (h:Ed σ d gd vN vE nb eb N E x y):∀o∈d::(vN.obj++(vE.obj++BG N E)),o<σ.length:=by
 intro o ho
 obtain⟨cn,hn1,_⟩:=h.hn
 obtain⟨ce,he1,_⟩:=h.he
 rcases List.mem_cons.1 ho with rfl|ho
 ·exact BZ h.box
 rcases List.mem_append.1 ho with ho|ho
 ·exact hn1.lt o ho
 rcases List.mem_append.1 ho with ho|ho
 ·exact he1.lt o ho
 rcases List.mem_append.1 ho with ho|ho<;>obtain⟨e,he,hm⟩:=List.mem_flatMap.1 ho
 ·exact(h.hN e he).lt o hm
 ·exact(h.hE e he).lt o hm
theorem Ed.nodes (h:Ed σ d gd vN vE nb eb N E x y) {F:List Nat} (hF:Fr σ σ' F) (hFE:∀o∈F,o∉vE.obj∧o∉E.flatMap EE.objs) {U2:AV} {nb':Bool} {N':List EN} {x':Int} {c':Bool}
 (hb:nth σ' d=some (.arr gd 4 true false [.agg [U2,vE,.int .i64 x',.int .i64 y]]))
 (hn:Hd EN.av 3 σ' U2 nb' N' c') (hc:c'=true→∀e∈N',e.av.closed=true) (hm:∀e∈N',e.Ok σ') (hnd:(d::(U2.obj++(vE.obj++BG N' E))).Nodup) (hv:U2≠.sl false []):Ed σ' d gd U2 vE nb' eb N' E x' y:=by
 obtain⟨ce,he1,he2⟩:=h.he
 exact⟨hb,⟨c',hn,hc⟩,⟨ce,he1.keep fun o hm=>hF.eq o (he1.lt o hm) (fun hf=>(hFE o hf).1 hm),he2⟩,hm,
  fun e he=>(h.hE e he).keep fun o hm=>hF.eq o ((h.hE e he).lt o hm) (fun hf=>(hFE o hf).2 (List.mem_flatMap.2 ⟨e,he,hm⟩)),hnd,hv,h.oE⟩
theorem Ed.edges (h:Ed σ d gd vN vE nb eb N E x y) {F:List Nat} (hF:Fr σ σ' F) (hFE:∀o∈F,o∉vN.obj∧o∉N.flatMap EN.objs) {Yw:AV} {eb':Bool} {E':List EE} {y':Int} {c':Bool}
 (hb:nth σ' d=some (.arr gd 4 true false [.agg [vN,Yw,.int .i64 x,.int .i64 y']]))
 (hn:Hd EE.av 5 σ' Yw eb' E' c') (hc:c'=true→∀e∈E',e.av.closed=true) (hm:∀e∈E',e.Ok σ') (hnd:(d::(vN.obj++(Yw.obj++BG N E'))).Nodup) (hv:Yw≠.sl false []):Ed σ' d gd vN Yw nb eb' N E' x y':=by
 obtain⟨cn,he1,he2⟩:=h.hn
 exact⟨hb,⟨cn,he1.keep fun o hm=>hF.eq o (he1.lt o hm) (fun hf=>(hFE o hf).1 hm),he2⟩,⟨c',hn,hc⟩,
  fun e he=>(h.hN e he).keep fun o hm=>hF.eq o ((h.hN e he).lt o hm) (fun hf=>(hFE o hf).2 (List.mem_flatMap.2 ⟨e,he,hm⟩)),hm,hnd,h.oN,hv⟩
theorem Ed.Hz (h:Ed σ d gd vN vE nb eb N E x y) {i:Nat} (hi:i<N.length):∀o,o∈vN.obj∨o∈(N[i]).objs→o≠d∧o∉vE.obj∧o∉E.flatMap EE.objs∧(o∈vN.obj→o∉BG N E)∧(o∈(N[i]).objs→o∉vN.obj∧∀j (hj:j<N.length),j≠i→o∉(N[j]).objs):=by
 have hnd:=h.nd
 have hsp:=JR (E:=E) hi
 rw[List.nodup_cons,List.nodup_append,List.nodup_append]at hnd
 obtain⟨h1,h2,⟨h3,h4,h5⟩,h6⟩:=hnd
 have hmem:∀o∈(N[i]).objs,o∈BG N E:=fun o ho=>Iw (List.getElem_mem hi) ho
 intro o ho
 refine⟨?_,?_,?_,?_,?_⟩
 ·rintro rfl
  rcases ho with ho|ho
  ·exact h1 (by simp[ho])
  ·exact h1 (by simp[hmem _ ho])
 ·intro hm
  rcases ho with ho|ho
  ·exact h6 o ho o (by simp[hm]) rfl
  ·exact h5 o hm o (hmem _ ho) rfl
 ·intro hm
  rcases ho with ho|ho
  ·exact h6 o ho o (by simp[BG];exact .inr (.inr (by simpa using hm))) rfl
  ·rw[hsp,List.nodup_append]at h4
   exact h4.2.2 o (List.mem_append_right _ ho) o (List.mem_append_right _ hm) rfl
 ·exact fun hv hm=>h6 o hv o (by simp[hm]) rfl
 ·intro hoi
  refine⟨fun hv=>h6 o hv o (by simp[hmem _ hoi]) rfl,fun j hj hji hm=>?_⟩
  rw[hsp,List.nodup_append,List.nodup_append]at h4
  obtain⟨⟨_,_,k1⟩,_,k2⟩:=h4
  rcases Nat.lt_or_ge j i with hlt|hge
  ·exact k1 o (List.mem_flatMap.2 ⟨N[j],List.mem_take_iff_getElem.2 ⟨j,by omega,rfl⟩,hm⟩) o hoi rfl
  ·exact k2 o (List.mem_append_right _ hoi) o (List.mem_append_left _ (List.mem_flatMap.2 ⟨N[j],List.mem_drop_iff_getElem.2 ⟨j-(i+1),by omega,by congr 1;omega⟩,hm⟩)) rfl
theorem Ed.YG (h:Ed σ d gd vN vE nb eb N E x y) {i:Nat} (hi:i<E.length):∀o,o∈vE.obj∨o∈(E[i]).objs→o≠d∧o∉vN.obj∧o∉N.flatMap EN.objs∧(o∈vE.obj→o∉BG N E)∧(o∈(E[i]).objs→o∉vE.obj∧∀j (hj:j<E.length),j≠i→o∉(E[j]).objs):=by
 have hnd:=h.nd
 have hsp:=Lh (N:=N) hi
 rw[List.nodup_cons,List.nodup_append,List.nodup_append]at hnd
 obtain⟨h1,h2,⟨h3,h4,h5⟩,h6⟩:=hnd
 have hmem:∀o∈(E[i]).objs,o∈BG N E:=fun o ho=>Jw (List.getElem_mem hi) ho
 intro o ho
 refine⟨?_,?_,?_,?_,?_⟩
 ·rintro rfl
  rcases ho with ho|ho
  ·exact h1 (by simp[ho])
  ·exact h1 (by simp[hmem _ ho])
 ·intro hm
  rcases ho with ho|ho
  ·exact h6 o hm o (by simp[ho]) rfl
  ·exact h6 o hm o (by simp[hmem _ ho]) rfl
 ·intro hm
  rcases ho with ho|ho
  ·exact h5 o ho o (List.mem_append_left _ hm) rfl
  ·rw[hsp,List.nodup_append,List.nodup_append]at h4
   exact h4.1.2.2 o (List.mem_append_left _ hm) o ho rfl
 ·exact fun hv hm=>h5 o hv o hm rfl
 ·intro hoi
  refine⟨fun hv=>h5 o hv o (hmem _ hoi) rfl,fun j hj hji hm=>?_⟩
  rw[hsp,List.nodup_append,List.nodup_append]at h4
  obtain⟨⟨_,_,k1⟩,_,k2⟩:=h4
  rcases Nat.lt_or_ge j i with hlt|hge
  ·exact k1 o (List.mem_append_right _ (List.mem_flatMap.2 ⟨E[j],List.mem_take_iff_getElem.2 ⟨j,by omega,rfl⟩,hm⟩)) o hoi rfl
  ·exact k2 o (List.mem_append_right _ hoi) o (List.mem_flatMap.2 ⟨E[j],List.mem_drop_iff_getElem.2 ⟨j-(i+1),by omega,by congr 1;omega⟩,hm⟩) rfl
theorem Jb {α:Type} {l:List α} {i:Nat} {a e:α} (he:e∈l.set i a):e=a∨∃j,∃hj:j<l.length,j≠i∧e=l[j]:=by
 obtain⟨j,hj,rfl⟩:=List.getElem_of_mem he
 rw[List.length_set]at hj
 by_cases h:j=i
 ·subst h;exact .inl (by simp)
 ·exact .inr ⟨j,hj,h,by rw[List.getElem_set_ne (Ne.symm h)]⟩
theorem Xh {α:Type} {f:α→List Nat} {l:List α} {i:Nat} {a:α} (hi:i<l.length):(l.set i a).flatMap f=(l.take i).flatMap f++(f a++(l.drop (i+1)).flatMap f):=by
 rw[List.set_eq_take_append_cons_drop,if_pos hi,List.flatMap_append,List.flatMap_cons]
theorem Ed.setNode {on gn:Nat} (h:Ed σ d gd (.own on gn 0 N.length) vE true eb N E x y) {i:Nat} (hi:i<N.length) {e':EN} {c':Bool} (hF:Fr σ σ' (on::(N[i]).objs))
 (hon:nth σ' on=some (.arr gn 3 true c' (vs EN.av (N.set i e')))) (hc:c'=true→∀e∈N.set i e',e.av.closed=true) (hok:e'.Ok σ') (hob:∀o∈e'.objs,o∈(N[i]).objs∨σ.length≤o) (hnd:e'.objs.Nodup):
 Ed σ' d gd (.own on gn 0 N.length) vE true eb (N.set i e') E x y:=by
 have hap:=h.Hz hi
 have hin:∀o∈on::(N[i]).objs,o∈(AV.own on gn 0 N.length).obj∨o∈(N[i]).objs:=fun o ho=>by
  rcases List.mem_cons.1 ho with rfl|ho
  ·exact .inl (by simp[AV.obj])
  ·exact .inr ho
 refine h.nodes hF (fun o ho=>⟨(hap o (hin o ho)).2.1,(hap o (hin o ho)).2.2.1⟩) (hF.get h.box fun hm=>(hap d (hin d hm)).1 rfl) (.inr ⟨rfl,on,gn,by rw[List.length_set],hon⟩) hc (fun e he=>?_) ?_ (by simp)
 ·rcases Jb he with rfl|⟨j,hj,hji,rfl⟩
  ·exact hok
  ·refine(h.hN _ (List.getElem_mem hj)).keep fun o hm=>hF.eq o ((h.hN _ (List.getElem_mem hj)).lt o hm) fun hf=>?_
   rcases List.mem_cons.1 hf with rfl|hf
   ·exact(hap o (.inl (by simp[AV.obj]))).2.2.2.1 (by simp[AV.obj]) (Iw (List.getElem_mem hj) hm)
   ·exact((hap o (.inr hf)).2.2.2.2 hf).2 j hj hji hm
 ·have h0:=h.nd
  have hl:=h.MZ
  rw[JR hi]at h0 hl
  have e1:d::((AV.own on gn 0 N.length).obj++(vE.obj++BG (N.set i e') E))=(d::((AV.own on gn 0 N.length).obj++(vE.obj++(N.take i).flatMap EN.objs)))++e'.objs++((N.drop (i+1)).flatMap EN.objs++E.flatMap EE.objs):=by
   rw[BG,Xh hi];simp only[List.append_assoc,List.cons_append]
  rw[e1]
  refine J7 (B:=(N[i]).objs) (n:=σ.length) (by simpa only[List.append_assoc,List.cons_append]using h0) hnd hob fun o ho=>hl o ?_
  simp only[List.mem_cons,List.mem_append]at ho ⊢
  rcases ho with(h|h|h|h)|h|h<;>simp[h]
theorem Ed.Aen {on gn:Nat} (h:Ed σ d gd vN (.own on gn 0 E.length) nb true N E x y) {i:Nat} (hi:i<E.length) {e':EE} {c':Bool} (hF:Fr σ σ' (on::(E[i]).objs))
 (hon:nth σ' on=some (.arr gn 5 true c' (vs EE.av (E.set i e')))) (hc:c'=true→∀e∈E.set i e',e.av.closed=true) (hok:e'.Ok σ') (hob:∀o∈e'.objs,o∈(E[i]).objs∨σ.length≤o) (hnd:e'.objs.Nodup):
 Ed σ' d gd vN (.own on gn 0 E.length) nb true N (E.set i e') x y:=by
 have hap:=h.YG hi
 have hin:∀o∈on::(E[i]).objs,o∈(AV.own on gn 0 E.length).obj∨o∈(E[i]).objs:=fun o ho=>by
  rcases List.mem_cons.1 ho with rfl|ho
  ·exact .inl (by simp[AV.obj])
  ·exact .inr ho
 refine h.edges hF (fun o ho=>⟨(hap o (hin o ho)).2.1,(hap o (hin o ho)).2.2.1⟩) (hF.get h.box fun hm=>(hap d (hin d hm)).1 rfl) (.inr ⟨rfl,on,gn,by rw[List.length_set],hon⟩) hc (fun e he=>?_) ?_ (by simp)
 ·rcases Jb he with rfl|⟨j,hj,hji,rfl⟩
  ·exact hok
  ·refine(h.hE _ (List.getElem_mem hj)).keep fun o hm=>hF.eq o ((h.hE _ (List.getElem_mem hj)).lt o hm) fun hf=>?_
   rcases List.mem_cons.1 hf with rfl|hf
   ·exact(hap o (.inl (by simp[AV.obj]))).2.2.2.1 (by simp[AV.obj]) (Jw (List.getElem_mem hj) hm)
   ·exact((hap o (.inr hf)).2.2.2.2 hf).2 j hj hji hm
 ·have h0:=h.nd
  have hl:=h.MZ
  rw[Lh hi]at h0 hl
  have e1:d::(vN.obj++((AV.own on gn 0 E.length).obj++BG N (E.set i e')))=(d::(vN.obj++((AV.own on gn 0 E.length).obj++(N.flatMap EN.objs++(E.take i).flatMap EE.objs))))++e'.objs++(E.drop (i+1)).flatMap EE.objs:=by
   rw[BG,Xh hi];simp only[List.append_assoc,List.cons_append]
  rw[e1]
  refine J7 (B:=(E[i]).objs) (n:=σ.length) (by simpa only[List.append_assoc,List.cons_append]using h0) hnd hob fun o ho=>hl o ?_
  simp only[List.mem_cons,List.mem_append]at ho ⊢
  rcases ho with(h|h|h|h|h)|h<;>simp[h]
theorem Ed.AjV (h:Ed σ d gd vN vE nb eb N E x y) {F:List Nat} (hFo:∀o∈F,o=d∨o∈vN.obj):∀o∈vE.obj++BG N E,o∉F:=by
 intro o ho hf
 have hnd:=h.nd
 rw[List.nodup_cons,List.nodup_append]at hnd
 rcases hFo o hf with rfl|hv
 ·exact hnd.1 (List.mem_append_right _ ho)
 ·exact hnd.2.2.2 o hv o ho rfl
theorem Ed.AjW (h:Ed σ d gd vN vE nb eb N E x y) {F:List Nat} (hFo:∀o∈F,o=d∨o∈vE.obj):∀o∈vN.obj++BG N E,o∉F:=by
 intro o ho hf
 have hnd:=h.nd
 rw[List.nodup_cons,List.nodup_append,List.nodup_append]at hnd
 rcases hFo o hf with rfl|hv
 ·exact hnd.1 (by rcases List.mem_append.1 ho with ho|ho<;>simp[ho])
 ·rcases List.mem_append.1 ho with ho|ho
  ·exact hnd.2.2.2 o ho o (List.mem_append_left _ hv) rfl
  ·exact hnd.2.2.1.2.2 o hv o ho rfl
def eN0 (z:Int):EN:=⟨⟨z,false,[],false,[]⟩,.sl false [],.sl false []⟩
def eE0 (z fr to:Int) (ty:List UInt8):EE:=⟨⟨z,fr,to,ty,false,[]⟩,.sl false []⟩
theorem Ed.Af4 (h:Ed σ d gd vN vE nb eb N E x y) {F:List Nat} (hF:Fr σ σ' F) (hFo:∀o∈F,o=d∨o∈vN.obj) {U2:AV} {nb':Bool} {N':List EN} {x':Int} {c':Bool}
 (hb:nth σ' d=some (.arr gd 4 true false [.agg [U2,vE,.int .i64 x',.int .i64 y]])) (hn:Hd EN.av 3 σ' U2 nb' N' c') (hc:c'=true→∀e∈N,e.av.closed=true)
 (hm:∀e∈N',e∈N∨∃z,e=eN0 z) (hs:(N'.flatMap EN.objs).Sublist (N.flatMap EN.objs)) (ho:∀o∈U2.obj,o∈vN.obj∨σ.length≤o) (hv:U2≠.sl false []):Ed σ' d gd U2 vE nb' eb N' E x' y:=by
 have hout:=h.AjV hFo
 refine h.nodes hF (fun o hf=>⟨fun hm=>hout o (List.mem_append_left _ hm) hf,fun hm=>hout o (List.mem_append_right _ (List.mem_append_right _ hm)) hf⟩) hb hn (fun hct e he=>?_) (fun e he=>?_) ?_ hv
 ·rcases hm e he with he|⟨z,rfl⟩
  ·exact hc hct e he
  ·rfl
 ·rcases hm e he with he|⟨z,rfl⟩
  ·exact(h.hN e he).keep fun o hm=>hF.eq o ((h.hN e he).lt o hm) (hout o (List.mem_append_right _ (Iw he hm)))
  ·exact⟨.inl ⟨rfl,rfl,.inl rfl⟩,.inl ⟨rfl,rfl,.inl rfl⟩⟩
 ·have hsub:(vE.obj++BG N' E).Sublist (vE.obj++BG N E):=(List.Sublist.refl _).append (hs.append (List.Sublist.refl _))
  have h0:(([d]++vN.obj)++(vE.obj++BG N' E)).Nodup:=h.nd.sublist ((List.Sublist.refl ([d]++vN.obj)).append hsub)
  refine J7 (A:=[d]) (n:=σ.length) h0 hn.nodup ho fun o hm=>h.MZ o ?_
  rcases hm with hm|hm
  ·simp at hm;simp[hm]
  ·exact List.mem_cons_of_mem _ (List.mem_append_right _ (hsub.subset hm))
theorem Ed.Agr (h:Ed σ d gd vN vE nb eb N E x y) {F:List Nat} (hF:Fr σ σ' F) (hFo:∀o∈F,o=d∨o∈vE.obj) {Yw:AV} {eb':Bool} {E':List EE} {y':Int} {c':Bool}
 (hb:nth σ' d=some (.arr gd 4 true false [.agg [vN,Yw,.int .i64 x,.int .i64 y']])) (hn:Hd EE.av 5 σ' Yw eb' E' c') (hc:c'=true→∀e∈E,e.av.closed=true)
 (hm:∀e∈E',e∈E∨∃z a b s,e=eE0 z a b s) (hs:(E'.flatMap EE.objs).Sublist (E.flatMap EE.objs)) (ho:∀o∈Yw.obj,o∈vE.obj∨σ.length≤o) (hv:Yw≠.sl false []):Ed σ' d gd vN Yw nb eb' N E' x y':=by
 have hout:=h.AjW hFo
 refine h.edges hF (fun o hf=>⟨fun hm=>hout o (List.mem_append_left _ hm) hf,fun hm=>hout o (List.mem_append_right _ (List.mem_append_left _ hm)) hf⟩) hb hn (fun hct e he=>?_) (fun e he=>?_) ?_ hv
 ·rcases hm e he with he|⟨z,a,b,s,rfl⟩
  ·exact hc hct e he
  ·rfl
 ·rcases hm e he with he|⟨z,a,b,s,rfl⟩
  ·exact(h.hE e he).keep fun o hm=>hF.eq o ((h.hE e he).lt o hm) (hout o (List.mem_append_right _ (Jw he hm)))
  ·exact .inl ⟨rfl,rfl,.inl rfl⟩
 ·have hsub:(BG N E').Sublist (BG N E):=(List.Sublist.refl _).append hs
  have h0:(([d]++vN.obj)++vE.obj++BG N E').Nodup:=by
   have:=h.nd.sublist ((List.Sublist.refl (([d]++vN.obj)++vE.obj)).append hsub |>.trans (by simp[List.append_assoc]))
   exact this
  have h1:=J7 (A:=[d]++vN.obj) (n:=σ.length) h0 hn.nodup ho fun o hm=>h.MZ o (by
   rcases hm with hm|hm
   ·rcases List.mem_append.1 hm with hm|hm
    ·simp at hm;simp[hm]
    ·simp[hm]
   ·have:=hsub.subset hm
    simp[this])
  simpa[List.append_assoc]using h1
end
structure Ask (N:List EN) (E:List EE) (x y:Int):Prop where
 lN:N.length≤2000
 lE:E.length≤4000
 iN:Inc BU GN.id (N.map EN.n)
 iE:Inc BU GE.id (E.map EE.e)
 iL:∀e∈N,Inc Op.bytesLess id e.n.labels∧e.n.labels.length≤8
 iP:∀e∈N,Inc Op.bytesLess GP.key e.n.props∧e.n.props.length≤16
 iQ:∀e∈E,Inc Op.bytesLess GP.key e.e.props∧e.e.props.length≤16
 bx:-2^62≤x∧x≤2^62
 by_:-2^62≤y∧y≤2^62
section
variable {σ:List Obj} {d gd:Nat} {vN vE:AV} {nb eb:Bool} {N:List EN} {E:List EE} {x y:Int} {ct:Nat} {K:AA→Ap→Prop}
theorem NS {nb eb:Bool} {z:Int} (hq:Ask N E x y) (hf:∃n∈N,n.n.id=z):∃i,AtK BU GN.id z (N.map EN.n) i∧Af (Ad tab) 126 [.Ci (Jk nb eb N E x y).av.cells,.int .i64 z] (· =.Cc [.int .i64 (i:Nat),.bool true]):=by
 obtain⟨_,⟨i,b,rfl,h1,h2⟩,hd⟩:=(AbG (g:=Jk nb eb N E x y) (x:=z) (by have:=hq.lN;simp[Jk];omega) hq.iN).He
 obtain⟨n,hn,e⟩:=hf
 rw[h2.2 ⟨n.n,by simp only[Jk,List.mem_map];exact⟨n,hn,rfl⟩,e⟩]at hd
 exact⟨i,h1,hd⟩
theorem Rw {nb eb:Bool} {z:Int} (hq:Ask N E x y) (hf:¬∃n∈N,n.n.id=z):∃i,AtK BU GN.id z (N.map EN.n) i∧Af (Ad tab) 126 [.Ci (Jk nb eb N E x y).av.cells,.int .i64 z] (· =.Cc [.int .i64 (i:Nat),.bool false]):=by
 obtain⟨_,⟨i,b,rfl,h1,h2⟩,hd⟩:=(AbG (g:=Jk nb eb N E x y) (x:=z) (by have:=hq.lN;simp[Jk];omega) hq.iN).He
 cases b
 ·exact⟨i,h1,hd⟩
 ·obtain⟨n,hn,e⟩:=h2.1 rfl
  simp only[Jk,List.mem_map]at hn
  obtain⟨m,hm,rfl⟩:=hn
  exact absurd ⟨m,hm,e⟩ hf
theorem Ask.deep (hq:Ask N E x y):21+N.length+E.length≤999999:=by have:=hq.lN;have:=hq.lE;omega
set_option maxHeartbeats 1000000 in
theorem AgY {z fr to:Int} {nm:List UInt8} {v:GV} (h:Ed σ d gd vN vE nb eb N E x y) (hq:Ask N E x y) (hz:1≤z∧z≤1000000)
 (hP:(∃ n∈N,n.n.id=z)→∀σ' c',Fr σ σ' []→K (.Dp (.iface 138 (.int .i64 7))) ⟨σ',c'⟩)
 (hQ:(¬ ∃n∈N,n.n.id=z)→¬N.length<2000→∀σ' c',Fr σ σ' []→K (.Dp (.iface 138 (.int .i64 20))) ⟨σ',c'⟩)
 (hR:(¬ ∃n∈N,n.n.id=z)→N.length<2000→∀σ' c' U2 N',Ed σ' d gd U2 vE true eb N' E (if z+1>x then z+1 else x) y→N'.map EN.n=AY BU GN.id ⟨z,false,[],false,[]⟩ (N.map EN.n)→Fr σ σ' (d::(vN.obj++(vE.obj++BG N E)))→K (.ok (.Cc [])) ⟨σ',c'⟩):
 AQ (Ad tab) 91 [.ref d gd 0 0,(GC.mk 1 z fr to nm v).av] ⟨σ,ct⟩ K:=by
 have Df:=hq.deep
 have hlN:=hq.lN
 have hbx:=hq.bx
 show AQ (Ad tab) _ [.ref d gd 0 0,.agg [.int .i64 1,.int .i64 z,.int .i64 fr,.int .i64 to,.str nm,.int .i64 v.k,.int .i64 v.n,.int .i64 v.d,.str v.s,.sl v.nn v.l]] _ _
 by_cases hf:∃n∈N,n.n.id=z
 ·obtain⟨i,q1,hbt⟩:=NS (nb:=nb) (eb:=eb) hq hf
  refine Am rfl rfl ?_
  (conv=>whnf);repeat' (first|(refine Cb fun σ1 f1 h1 l1=>?_;have hE1:=h.LZ f1;conv=>whnf)|(apply Au (hE1.Pq 999999 Df);conv=>whnf)|(refine Aa hbt ?_;rintro _ rfl;conv=>whnf)|(refine Iz ?_;conv=>whnf)|(rw [h1];conv=>whnf)|(refine kA ?_;conv=>whnf)|(refine Br.mk (fun hc=>?_) fun hc=>?_<;>first|exact hc.elim|conv=>whnf)|(refine kB ?_))
  all_goals first|exact hP hf _ _ f1
 ·obtain⟨i,q1,hbt⟩:=Rw (nb:=nb) (eb:=eb) hq hf
  by_cases hlen:N.length<2000
  ·obtain⟨cn,hn1,hn2⟩:=h.hn
   rcases hn1 with⟨rfl,rfl,rfl|⟨o,g,es',rfl,ho⟩⟩|⟨rfl,o,g,rfl,ho⟩
   ·exact absurd rfl h.oN
   ·obtain rfl:i=0:=by simpa using q1.le
    refine Am rfl rfl ?_
    (conv=>whnf);repeat' (first|(refine Cb fun σ1 f1 h1 l1=>?_;have hE1:=h.LZ f1;have hd1:=hE1.box;have ho1:=f1.get ho (by simp);conv=>whnf)|(apply Au (hE1.Pq 999999 Df);conv=>whnf)|(refine Aa hbt ?_;rintro _ rfl;conv=>whnf)|(refine Eb ?_;conv=>whnf)|(rw [h1];conv=>whnf)|(rw [hd1];conv=>whnf)|(refine Qg (x:=GN.av ⟨z,false,[],false,[]⟩) rfl rfl (by omega) ho1 fun σ2 f2 h2=>?_;have hd2:=f2.get hd1 (by simp);have h12:=f2.get h1 (by simp);conv=>whnf)|(rw [hd2];conv=>whnf)|(refine kA ?_;conv=>whnf)|(refine Br.mk (fun hc=>?_) fun hc=>?_<;>first|exact hc.elim|conv=>whnf)|(refine kB ?_))
    have hns:σ.length∉[d]:=by have:=BZ h.box;simp;omega
    refine EG hd2 fun σ3 f3 h3 l3=>?_
    have h13:=f3.get h12 hns
    (conv=>whnf);repeat' (first|(rw [h3];conv=>whnf)|(rw [h13];conv=>whnf)|(refine kA ?_;conv=>whnf)|(refine Br.mk (fun hc=>?_) fun hc=>?_<;>first|exact hc.elim|conv=>whnf)|(refine kB ?_))
    refine EG h3 fun σ4 f4 h4 l4=>?_
    (conv=>whnf);repeat' (first  |(refine kA ?_;conv=>whnf)|(refine Br.mk (fun hc=>?_) fun hc=>?_<;>first|exact hc.elim|conv=>whnf)|(refine kB ?_))
    have hF:Fr σ σ4 [d]:=(((f1.mono (by simp)).trans (f2.mono (by simp))).trans f3).trans f4
    have hdl:=BZ h.box
    have h24:nth σ4 σ1.length=some (.arr (ct+1) 3 true true (vs EN.av [eN0 z])):=f4.get (f3.get h2 (by have:=f1.len;simp;dsimp only at this;omega)) (by have:=f1.len;simp;dsimp only at this;omega)
    have hed:Ed σ4 d gd (.own σ1.length (ct+1) 0 1) vE true eb [eN0 z] E (if z+1>x then z+1 else x) y:=
     h.Af4 hF (by simp) h4 (.inr ⟨rfl,_,_,rfl,h24⟩) (fun _ e he=>by simp at he) (fun e he=>.inr ⟨z,by simpa using he⟩) (by simp[eN0,EN.objs,AV.obj]) (fun o ho=>.inr (by simp only[AV.obj,List.mem_singleton]at ho;subst ho;exact f1.len)) (by simp)
    exact hR hf hlen _ _ _ _ hed rfl (hF.mono (by simp))
   ·have hil:=q1.le
    rw[List.length_map]at hil
    have hno:σ.length∉[o]:=by have:=BZ ho;simp;omega
    have hdo:d∉[o]:=by have:=h.nd;simp[AV.obj]at this;simpa using this.1.1
    refine Am rfl rfl ?_
    (conv=>whnf);repeat' (first|(refine Cb fun σ1 f1 h1 l1=>?_;have hE1:=h.LZ f1;have hd1:=hE1.box;have ho1:=f1.get ho (by simp);conv=>whnf)|(apply Au (hE1.Pq 999999 Df);conv=>whnf)|(refine Aa hbt ?_;rintro _ rfl;conv=>whnf)|(refine Eb ?_;conv=>whnf)|(rw [h1];conv=>whnf)|(rw [hd1];conv=>whnf)|(refine UK (fv:=EN.av) (x:=eN0 z) rfl rfl (by omega) rfl hil ho1 fun σ2 f2 h2=>?_;have hd2:=f2.get hd1 hdo;have h12:=f2.get h1 hno;conv=>whnf)|(rw [hd2];conv=>whnf)|(refine kA ?_;conv=>whnf)|(refine Br.mk (fun hc=>?_) fun hc=>?_<;>first|exact hc.elim|conv=>whnf)|(refine kB ?_))
    refine EG hd2 fun σ3 f3 h3 l3=>?_
    have hdl:=BZ h.box
    have h13:=f3.get h12 (by simp;omega)
    (conv=>whnf);repeat' (first|(rw [h3];conv=>whnf)|(rw [h13];conv=>whnf)|(refine kA ?_;conv=>whnf)|(refine Br.mk (fun hc=>?_) fun hc=>?_<;>first|exact hc.elim|conv=>whnf)|(refine kB ?_))
    refine EG h3 fun σ4 f4 h4 l4=>?_
    (conv=>whnf);repeat' (first  |(refine kA ?_;conv=>whnf)|(refine Br.mk (fun hc=>?_) fun hc=>?_<;>first|exact hc.elim|conv=>whnf)|(refine kB ?_))
    have hF:Fr σ σ4 [d,o]:=(((f1.mono (by simp)).trans (f2.mono (by simp))).trans (f3.mono (by simp))).trans (f4.mono (by simp))
    have hod:o∉[d]:=fun hm=>hdo (by simp at hm ⊢;exact hm.symm)
    have h24:nth σ4 o=some (.arr (ct+1) 3 true cn (vs EN.av (N.take i++[eN0 z]++N.drop i))):=f4.get (f3.get h2 hod) hod
    have hl4:(N.take i++[eN0 z]++N.drop i).length=N.length+1:=by simp only[List.length_append,List.length_take,List.length_drop,List.length_singleton];omega
    have hed:Ed σ4 d gd (.own o (ct+1) 0 (N.length+1)) vE true eb (N.take i++[eN0 z]++N.drop i) E (if z+1>x then z+1 else x) y:=
     h.Af4 hF (by simp[AV.obj]) h4 (.inr ⟨rfl,_,_,by rw[hl4],h24⟩) hn2 (fun e he=>by
         rcases List.mem_append.1 he with he|he
         ·rcases List.mem_append.1 he with he|he
          ·exact .inl (List.mem_of_mem_take he)
          ·exact .inr ⟨z,by simpa using he⟩
         ·exact .inl (List.mem_of_mem_drop he)) (by
         rw[List.flatMap_append,List.flatMap_append,show[eN0 z].flatMap EN.objs=[] from rfl,List.append_nil,←List.flatMap_append,List.take_append_drop]
         exact List.Sublist.refl _) (fun o ho=>.inl ho) (by simp)
    exact hR hf hlen _ _ _ _ hed (by
     refine Eq.trans ?_ (AtK.ins (key:=GN.id) (x:=(⟨z,false,[],false,[]⟩:GN)) Aj q1 (fun n hn e=>hf (by obtain⟨m,hm,rfl⟩:=List.mem_map.1 hn;exact⟨m,hm,e⟩)))
     simp only[List.map_append,List.map_take,List.map_drop];rfl) (hF.mono (by simp[AV.obj]))
  ·obtain⟨cn,hn1,hn2⟩:=h.hn
   rcases hn1 with⟨rfl,rfl,rfl|⟨o,g,es',rfl,ho⟩⟩|⟨rfl,o,g,rfl,ho⟩
   ·exact absurd rfl h.oN
   ·exact absurd (by simp) hlen
   ·refine Am rfl rfl ?_
    (conv=>whnf);repeat' (first|(refine Cb fun σ1 f1 h1 l1=>?_;have hE1:=h.LZ f1;have hd1:=hE1.box;conv=>whnf)|(apply Au (hE1.Pq 999999 Df);conv=>whnf)|(refine Aa hbt ?_;rintro _ rfl;conv=>whnf)|(refine Eb ?_;conv=>whnf)|(refine Iz ?_;conv=>whnf)|(rw [h1];conv=>whnf)|(rw [hd1];conv=>whnf)|(refine kA ?_;conv=>whnf)|(refine Br.mk (fun hc=>?_) fun hc=>?_<;>first|exact hc.elim|conv=>whnf)|(refine kB ?_))
    all_goals first|exact hQ hf hlen _ _ f1
end
end AI
end Go.Proofs.YtgmgkkbpgndaaaaGreatDoor
