/- Looking up a key in strings: slices.BinarySearch, on memory that stays. A call of an entry that the model answers. Walks through what an editor calls: must, node, edge. Setting a property of a node or an edge that an editor edits. change.Check. What becomes of an edited graph when its store changes. -/
import Derived.Test.YthnehejdkajjhaaGreatDoorBMaa
import Derived.Test.YthnehejdkajjhaaGreatDoorJMad
import Derived.Test.YthnehejdkajjhaaGreatDoorJMai
import Derived.Test.YthnehejdkajjhaaGreatDoorBVa
import Derived.Test.YthnehejdkajjhaaGreatDoorJMag
set_option linter.unusedVariables false
set_option maxRecDepth 4000
namespace Go.Proofs.YthnehejdkajjhaaGreatDoor
namespace AI
theorem Atd {x y:List UInt8}:Ag (Ac tab) 196 [.str x,.str y] (· =.bool (Op.bytesLess x y)):=by
 refine Ad rfl rfl ?_
 (conv=>whnf);repeat' (first|(refine Aa Anc ?_;rintro _ rfl;conv=>whnf)|(refine kA ?_;conv=>whnf)|(refine Br.mk (fun hc=>?_) fun hc=>?_<;>first|exact hc.elim|conv=>whnf)|(refine kB ?_))
 all_goals first|(rw [hc];rfl)|rfl|(exfalso;simp_all;done)
theorem AvO {x:List UInt8}:Ag (Ac tab) 197 [.str x] (· =.bool false):=by
 refine Ad rfl rfl ?_
 (conv=>whnf);repeat' (first  |(refine kA ?_;conv=>whnf)|(refine Br.mk (fun hc=>?_) fun hc=>?_<;>first|exact hc.elim|conv=>whnf)|(refine kB ?_))
 all_goals first|rfl|(exfalso;simp_all)
theorem bsS {l:List (List UInt8)} {nn:Bool} {x:(List UInt8)} (hl:l.length<2^62) (hi:Inc Op.bytesLess id l):Ag (Ac tab) 144 [.sl nn (vs .str l),.str x] (fun v=>∃(i:Nat) (b:Bool),v=.BG [.int .i64 i,.bool b]∧AtK Op.bytesLess id x l i∧(b=true↔∃y∈l,id y=x)):=by
 have fin:∀i:Nat,AtK Op.bytesLess id x l i→((∃ y∈l,id y=x)↔∃h:i<l.length,id l[i]=x):=by
  intro i h
  constructor
  ·intro hf
   obtain⟨h1,h2,_⟩:=h.found Ai hi hf
   exact⟨h1,h2⟩
  ·rintro⟨h1,h2⟩
   exact⟨_,List.getElem_mem h1,h2⟩
 refine Ad rfl rfl ?_
 (conv=>whnf);repeat' (first|(refine kA ?_;conv=>whnf)|(refine Br.mk (fun hc=>?_) fun hc=>?_<;>first|exact hc.elim|conv=>whnf)  |(refine kB ?_))
 refine Af (fun m env s=>∃(i j:Nat),m=j-i∧i≤j∧j≤l.length∧env=[(0,.sl nn (vs .str l)),(1,.str x),(6,.int .i64 l.length),(7,.int .i64 i),(8,.int .i64 j)]∧s=⟨[],0⟩∧
  (∀ k (h:k<l.length),k<i→Op.bytesLess (id l[k]) x=true)∧(∀ k (h:k<l.length),j≤k→Op.bytesLess (id l[k]) x=false)) ?_ _ _ _ ⟨0,l.length,rfl,by omega,by omega,by simp,rfl,fun k _ h=>absurd h (by omega),fun k h1 h=>absurd h (by omega)⟩
 rintro _ _ _ ⟨i,j,rfl,hij,hj,rfl,rfl,h1,h2⟩
 refine⟨rfl,?_⟩
 have lo:∀{q:Nat} (hq:q<l.length),Op.bytesLess (id l[q]) x=true→∀k (h:k<l.length),k<q+1→Op.bytesLess (id l[k]) x=true:=fun{q} hq hm k hk hlt=>by
  rcases Nat.lt_or_ge k q with h|h
  ·exact(Ai).tr _ _ _ (hi.get h hq) hm
  ·obtain rfl:k=q:=by omega
   exact hm
 have up:∀{q:Nat} (hq:q<l.length),Op.bytesLess (id l[q]) x=false→∀k (h:k<l.length),q≤k→Op.bytesLess (id l[k]) x=false:=fun{q} hq hm k hk hle=>by
  rcases Nat.lt_or_ge q k with h|h
  ·cases h3:Op.bytesLess (id l[k]) x
   ·rfl
   ·have:=(Ai).tr _ _ _ (hi.get h hk) h3
    rw[hm]at this;cases this
  ·obtain rfl:k=q:=by omega
   exact hm
 (conv=>whnf);repeat' (first|(refine Abl (i+j) (by omega) (by omega) ?_;conv=>whnf)|(apply BK;(· exact Ahi _);conv=>whnf)|((first|refine Aa Atd ?_|refine Aa AvO ?_);rintro _ rfl;conv=>whnf)|(refine UF (fun hb=>?_) (fun hb=>?_)<;>conv=>whnf)|(refine kA ?_;conv=>whnf)|(refine Br.mk (fun hc=>?_) fun hc=>?_<;>first|exact hc.elim|conv=>whnf)|(refine kB ?_))
 all_goals first
  |exact again.mk ⟨_,by omega,(i+j) / 2+1,j,rfl,by omega,hj,rfl,rfl,lo (by omega) hb,h2⟩
  |exact again.mk ⟨_,by omega,i,(i+j) / 2,rfl,by omega,by omega,rfl,rfl,h1,up (by omega) hb⟩
  |skip
 all_goals
  obtain rfl:i=j:=by omega
  have ha:AtK Op.bytesLess id x l i:=⟨by omega,h1,h2⟩
  have hf:=fin i ha
  first
   |exact⟨i,_,rfl,ha,fun _=>hf.2 ⟨by omega,hc⟩,fun _=>rfl⟩
   |exact⟨i,_,rfl,ha,fun h=>(by cases h),fun h=>by obtain⟨_,e⟩:=hf.1 h;exact absurd e hc⟩
   |exact⟨i,_,rfl,ha,fun h=>(by cases h),fun h=>by obtain⟨e,_⟩:=hf.1 h;omega⟩
theorem MG {AP:Nat→Option Jc} {f:Nat} {sp:List AV→Aq→Option (Bf×Aq)} {args:List AV} {s s':Aq} {out:Bf} {K:Bf→Aq→Prop} (hf:AP f=some (.ext sp)) (h:sp args s=some (out,s')) (hK:K out s'):Am AP f args s K:=
 ⟨1,out,s',by simp only[run,hf];exact h,hK⟩
theorem Fp {e:Int} {s:Aq} {K:Bf→Aq→Prop} (h:K (.ok (.BG [])) s):Am (Ac tab) 141 [.bool true,.int .i64 e] s K:=by
 refine Ah rfl rfl ?_
 (conv=>whnf);repeat' (first  |(refine kA ?_;conv=>whnf)|(refine Br.mk (fun hc=>?_) fun hc=>?_<;>first|exact hc.elim|conv=>whnf)|(refine kB ?_))
 exact h
theorem Kz {e:Int} {s:Aq} {K:Bf→Aq→Prop} (h:K (.Ei (.iface 118 (.int .i64 e))) s):Am (Ac tab) 141 [.bool false,.int .i64 e] s K:=by
 refine Ah rfl rfl ?_
 (conv=>whnf);repeat' (first  |(refine kA ?_;conv=>whnf)|(refine Br.mk (fun hc=>?_) fun hc=>?_<;>first|exact hc.elim|conv=>whnf)|(refine kB ?_))
 exact h
theorem AhG {g:GG} {x:Int} (hl:g.nodes.length<2^62) (hi:Inc BX GN.id g.nodes):Ag (Ac tab) 140 [.DR g.av.cells,.int .i64 x] (fun v=>∃(i:Nat) (b:Bool),v=.BG [.int .i64 i,.bool b]∧AtK BX GN.id x g.nodes i∧(b=true↔∃y∈g.nodes,GN.id y=x)):=by
 refine Ad rfl rfl ?_
 (conv=>whnf);repeat' (first|(refine Aa (bsN hl hi) ?_;rintro _ ⟨i,b,rfl,h1,h2⟩;conv=>whnf)|(refine kA ?_;conv=>whnf)|(refine Br.mk (fun hc=>?_) fun hc=>?_<;>first|exact hc.elim|conv=>whnf)|(refine kB ?_))
 all_goals exact⟨i,_,rfl,h1,by rw[hc]at h2;exact h2⟩
theorem AhH {g:GG} {x:Int} (hl:g.edges.length<2^62) (hi:Inc BX GE.id g.edges):Ag (Ac tab) 148 [.DR g.av.cells,.int .i64 x] (fun v=>∃(i:Nat) (b:Bool),v=.BG [.int .i64 i,.bool b]∧AtK BX GE.id x g.edges i∧(b=true↔∃y∈g.edges,GE.id y=x)):=by
 refine Ad rfl rfl ?_
 (conv=>whnf);repeat' (first|(refine Aa (bsE hl hi) ?_;rintro _ ⟨i,b,rfl,h1,h2⟩;conv=>whnf)|(refine kA ?_;conv=>whnf)|(refine Br.mk (fun hc=>?_) fun hc=>?_<;>first|exact hc.elim|conv=>whnf)|(refine kB ?_))
 all_goals exact⟨i,_,rfl,h1,by rw[hc]at h2;exact h2⟩
structure Fr (σ σ':List Obj) (F:List Nat):Prop where
 len:σ.length≤σ'.length
 eq:∀o,o<σ.length→o∉F→nth σ' o=nth σ o
theorem Fr.refl {σ:List Obj} {F:List Nat}:Fr σ σ F:=⟨Nat.le_refl _,fun _ _ _=>rfl⟩
theorem Fr.trans {σ σ1 σ2:List Obj} {F:List Nat} (h:Fr σ σ1 F) (k:Fr σ1 σ2 F):Fr σ σ2 F:=
 ⟨Nat.le_trans h.len k.len,fun o ho hf=>(k.eq o (Nat.lt_of_lt_of_le ho h.len) hf).trans (h.eq o ho hf)⟩
theorem Fr.mono {σ σ':List Obj} {F F':List Nat} (h:Fr σ σ' F) (hf:∀o∈F,o∈F'∨σ.length≤o):Fr σ σ' F':=
 ⟨h.len,fun o ho hn=>h.eq o ho fun hm=>(hf o hm).elim hn fun h=>by omega⟩
theorem Fr.get {σ σ':List Obj} {F:List Nat} {o:Nat} {x:Obj} (h:Fr σ σ' F) (hx:nth σ o=some x) (hf:o∉F):nth σ' o=some x:=(h.eq o (Dc hx) hf).trans hx
theorem Dh {σ:List Obj} {y:Obj} {K:List Obj→Prop} (h:∀σ',Fr σ σ' []→nth σ' σ.length=some y→σ'.length=σ.length+1→K σ'):AdX σ y K:=
 (TR _ _ _).2 (h _ ⟨by simp,fun o ho _=>RD ho⟩ OI (by simp))
theorem F7 {σ:List Obj} {o:Nat} {x y:Obj} {K:List Obj→Prop} (hx:nth σ o=some x) (h:∀σ',Fr σ σ' [o]→nth σ' o=some y→σ'.length=σ.length→K σ'):WL σ o y K:=
 (Hf _ _ _ _).2 (h _ ⟨by simp,fun p hp hn=>QB (by simpa using fun e=>hn (by simp[e]))⟩ (Iw hx) (by simp))
theorem Ag9 {AP:Nat→Option Jc} {f es bytes:Nat} {x:AV} {s:Aq} {K:Bf→Aq→Prop} (hf:AP f=some (.ext (GL es bytes))) (hx:x.cells.length=es) (hb:bytes≤2 ^ 46)
 (h:∀σ',Fr s.σ σ' []→nth σ' s.σ.length=some (.arr s.ctr es true true [x])→K (.ok (.own s.σ.length s.ctr 0 1)) ⟨σ',s.ctr+1⟩):Am AP f [.sl false [],.int .i64 0,.sl true [x]] s K:=
 MG hf (by simp only[GL,hx,if_true];rw[if_pos ⟨trivial,hb⟩];rfl) (h _ ⟨by simp,fun o ho _=>RD ho⟩ OI)
theorem Vm {AP:Nat→Option Jc} {f es bytes es' o g:Nat} {x:AV} {s:Aq} {K:Bf→Aq→Prop} (hf:AP f=some (.ext (GL es bytes))) (hx:x.cells.length=es) (hb:bytes≤2 ^ 46) (ho:nth s.σ o=some (.arr g es' false true []))
 (h:∀σ',Fr s.σ σ' []→nth σ' s.σ.length=some (.arr s.ctr es true true [x])→K (.ok (.own s.σ.length s.ctr 0 1)) ⟨σ',s.ctr+1⟩):Am AP f [.own o g 0 0,.int .i64 0,.sl true [x]] s K:=
 MG hf (by simp only[GL,hx,ho,if_true];rw[if_pos ⟨trivial,trivial,trivial,hb⟩];rfl) (h _ ⟨by simp,fun o ho _=>RD ho⟩ OI)
theorem ZE {α:Type} {fv:α→AV} {AP:Nat→Option Jc} {f es bytes o g i n:Nat} {c:Bool} {l:List α} {x:α} {s:Aq} {K:Bf→Aq→Prop} (hf:AP f=some (.ext (GL es bytes))) (hx:(fv x).cells.length=es) (hb:(n+1)*bytes≤2 ^ 46) (hn:n=l.length) (hi:i≤n) (ho:nth s.σ o=some (.arr g es true c (vs fv l)))
 (h:∀σ',Fr s.σ σ' [o]→nth σ' o=some (.arr s.ctr es true c (vs fv (l.take i++[x]++l.drop i)))→K (.ok (.own o s.ctr 0 (n+1))) ⟨σ',s.ctr+1⟩):Am AP f [.own o g 0 n,.int .i64 i,.sl true [fv x]] s K:=by
 subst hn
 have e1:((vs fv l).take l.length)=vs fv l:=List.take_of_length_le (by simp)
 refine MG hf (by simp only[GL,hx,ho,if_true,Bool.true_eq_false,if_false];rw[if_pos ⟨trivial,trivial,by omega,by simpa using hi,by simp,hb⟩]) (h _ ⟨by simp,fun p hp hn=>QB (by simpa using fun e=>hn (by simp[e]))⟩ ?_)
 rw[Iw ho]
 simp only[Int.toNat_natCast,e1]
 simp[vs,List.map_take,List.map_drop]
theorem WM {α:Type} {fv:α→AV} {AP:Nat→Option Jc} {f es o g i n:Nat} {c:Bool} {z:Int} {l:List α} {s:Aq} {K:Bf→Aq→Prop} (hf:AP f=some (.ext (delSpec es))) (hn:n=l.length) (hi:i<n) (hz:z=(i:Int)+1) (ho:nth s.σ o=some (.arr g es true c (vs fv l)))
 (h:∀σ',Fr s.σ σ' [o]→nth σ' o=some (.arr s.ctr es true c (vs fv (l.take i++l.drop (i+1))))→K (.ok (.own o s.ctr 0 (i+(n-(i+1))))) ⟨σ',s.ctr+1⟩):Am AP f [.own o g 0 n,.int .i64 i,.int .i64 z] s K:=by
 subst hn hz
 have e1:((vs fv l).take l.length)=vs fv l:=List.take_of_length_le (by simp)
 have e2:((i:Int)+1).toNat=i+1:=by omega
 refine MG hf (by simp only[delSpec,ho];rw[if_pos ⟨trivial,trivial,by omega,by omega,by omega,by simp⟩]) ?_
 simp only[Int.toNat_natCast,e1,e2]
 refine h _ ⟨by simp,fun p hp hn=>QB (by simpa using fun e=>hn (by simp[e]))⟩ ?_
 rw[Iw ho]
 simp[vs,List.map_take,List.map_drop]
theorem AaY {v:GV} (hv:v.ok) (h:isNull v):Ag (Ac tab) 139 [v.av] (· =.bool true):=by
 refine Ad rfl rfl ?_
 (conv=>whnf);repeat' (first|(refine Aa (AdY hv) ?_;rintro _ ⟨z,rfl,hz⟩;conv=>whnf)|(refine kA ?_;conv=>whnf)|(refine Br.mk (fun hc=>?_) fun hc=>?_<;>first|exact hc.elim|conv=>whnf)|(refine kB ?_))
 all_goals first|rfl|exact absurd (hz.2 h) hc
theorem AaZ {v:GV} (hv:v.ok) (h:¬isNull v):Ag (Ac tab) 139 [v.av] (· =.bool false):=by
 refine Ad rfl rfl ?_
 (conv=>whnf);repeat' (first|(refine Aa (AdY hv) ?_;rintro _ ⟨z,rfl,hz⟩;conv=>whnf)|(refine kA ?_;conv=>whnf)|(refine Br.mk (fun hc=>?_) fun hc=>?_<;>first|exact hc.elim|conv=>whnf)|(refine kB ?_))
 all_goals first|rfl|exact absurd (hz.1 hc) h
set_option maxHeartbeats 1000000 in
theorem Aq9 {σ:List Obj} {c:Nat} {lv:AV} {b:Bool} {l:List GP} {k:List UInt8} {v:GV} {K:Bf→Aq→Prop} (h:Hd GP.av 6 σ lv b l true) (hi:Inc Op.bytesLess GP.key l) (hl:l.length≤100) (hv:v.ok)
 (hA:isNull v→∀σ' c' lv',Hd GP.av 6 σ' lv' b (Cc Op.bytesLess GP.key k l) true→Fr σ σ' lv.obj→(∀ o∈lv'.obj,o∈lv.obj∨σ.length≤o)→K (.ok lv') ⟨σ',c'⟩)
 (hB:¬isNull v→((∃ y∈l,GP.key y=k)∨l.length<16)→∀σ' c' lv',Hd GP.av 6 σ' lv' true (A8 Op.bytesLess GP.key ⟨k,v⟩ l) true→Fr σ σ' lv.obj→(∀ o∈lv'.obj,o∈lv.obj∨σ.length≤o)→K (.ok lv') ⟨σ',c'⟩)
 (hC:¬isNull v→(¬ ∃y∈l,GP.key y=k)→¬l.length<16→∀σ' c',Fr σ σ' []→K (.Ei (.iface 118 (.int .i64 20))) ⟨σ',c'⟩):
 Am (Ac tab) 147 [lv,.str k,v.av] ⟨σ,c⟩ K:=by
 rcases h with⟨rfl,rfl,h⟩|⟨rfl,o,g,rfl,ho⟩
 ·have hbs:∀{nn:Bool},Ag (Ac tab) 200 [.sl nn (vs GP.av []),.str k,.fn 201 []] (· =.BG [.int .i64 (0:Nat),.bool false]):=fun{nn}=>by
   refine(bsP (l:=[]) (nn:=nn) (x:=k) (by simp) List.Pairwise.nil).mono ?_
   rintro _ ⟨i,fb,rfl,q1,q2⟩
   obtain rfl:i=0:=by have:=q1.le;simpa using this
   cases fb
   ·rfl
   ·exact absurd (q2.1 rfl) (by simp)
  have fin:∀σ1 σ2 c',Fr σ σ1 []→Fr σ1 σ2 []→nth σ2 σ1.length=some (.arr c' 6 true true [GP.av ⟨k,v⟩])→¬isNull v→lv.obj=[]∨True→K (.ok (.own σ1.length c' 0 1)) ⟨σ2,c'+1⟩:=fun σ1 σ2 c' f1 f2 h2 hn _=>
   hB hn (.inr (by simp)) _ _ _ (.inr ⟨rfl,_,_,rfl,h2⟩) ((f1.trans f2).mono (by simp)) (fun o ho=>by simp only[AV.obj,List.mem_singleton]at ho;subst ho;exact .inr f1.len)
  rcases h with rfl|⟨o,g,es',rfl,ho⟩
  ·by_cases hn:isNull v
   ·refine Ah rfl rfl ?_
    (conv=>whnf);repeat' (first|(refine Dh fun σ1 f1 h1 l1=>?_;conv=>whnf)|((first|refine Aa hbs ?_|refine Aa (AaY hv hn) ?_);rintro _ rfl;conv=>whnf)|(rw [h1];conv=>whnf)|(refine kA ?_;conv=>whnf)|(refine Br.mk (fun hc=>?_) fun hc=>?_<;>first|exact hc.elim|conv=>whnf)|(refine kB ?_))
    exact hA hn _ _ (.sl false []) (.inl ⟨rfl,rfl,.inl rfl⟩) (f1.mono (by simp)) (fun o ho=>by simp[AV.obj]at ho)
   ·refine Ah rfl rfl ?_
    (conv=>whnf);repeat' (first|(refine Dh fun σ1 f1 h1 l1=>?_;conv=>whnf)|((first|refine Aa hbs ?_|refine Aa (AaZ hv hn) ?_);rintro _ rfl;conv=>whnf)|(rw [h1];conv=>whnf)|(refine Fp ?_;conv=>whnf)|(refine Ag9 (x:=GP.av ⟨k,v⟩) rfl rfl (by omega) fun σ2 f2 h2=>?_;conv=>whnf)|(refine kA ?_;conv=>whnf)|(refine Br.mk (fun hc=>?_) fun hc=>?_<;>first|exact hc.elim|conv=>whnf)|(refine kB ?_))
    all_goals first|exact fin _ _ _ f1 f2 h2 hn (.inr trivial)
  ·by_cases hn:isNull v
   ·refine Ah rfl rfl ?_
    (conv=>whnf);repeat' (first|(refine Dh fun σ1 f1 h1 l1=>?_;have ho1:=f1.get ho (by simp);conv=>whnf)|((first|refine Aa hbs ?_|refine Aa (AaY hv hn) ?_);rintro _ rfl;conv=>whnf)|(rw [h1];conv=>whnf)|(rw [ho1];conv=>whnf)|(refine kA ?_;conv=>whnf)|(refine Br.mk (fun hc=>?_) fun hc=>?_<;>first|exact hc.elim|conv=>whnf)|(refine kB ?_))
    all_goals first|exact hA hn _ _ _ (.inl ⟨rfl,rfl,.inr ⟨_,_,_,rfl,ho1⟩⟩) (f1.mono (by simp)) (fun o ho=>.inl ho)
   ·refine Ah rfl rfl ?_
    (conv=>whnf);repeat' (first|(refine Dh fun σ1 f1 h1 l1=>?_;have ho1:=f1.get ho (by simp);conv=>whnf)|((first|refine Aa hbs ?_|refine Aa (AaZ hv hn) ?_);rintro _ rfl;conv=>whnf)|(rw [h1];conv=>whnf)|(rw [ho1];conv=>whnf)|(refine Fp ?_;conv=>whnf)|(refine Vm (x:=GP.av ⟨k,v⟩) rfl rfl (by omega) ho1 fun σ2 f2 h2=>?_;conv=>whnf)|(refine kA ?_;conv=>whnf)|(refine Br.mk (fun hc=>?_) fun hc=>?_<;>first|exact hc.elim|conv=>whnf)|(refine kB ?_))
    all_goals first|exact fin _ _ _ f1 f2 h2 hn (.inr trivial)
 ·have hlen:l.length<2 ^ 62:=by omega
  have hbs:=fun(nn:Bool)=>(bsP (nn:=nn) (x:=k) hlen hi)
  by_cases hf:∃y∈l,GP.key y=k
  ·have hbt:∃i,AtK Op.bytesLess GP.key k l i∧Ag (Ac tab) 200 [.sl true (vs GP.av l),.str k,.fn 201 []] (· =.BG [.int .i64 (i:Nat),.bool true]):=by
        obtain⟨_,⟨i,fb,rfl,q1,q2⟩,hd⟩:=(hbs true).IJ
        rw[q2.2 hf]at hd
        exact⟨i,q1,hd⟩
   obtain⟨i,q1,hbt⟩:=hbt
   obtain⟨hil,hik,_⟩:=q1.found Ai hi hf
   by_cases hn:isNull v
   ·refine Ah rfl rfl ?_
    (conv=>whnf);repeat' (first|(refine Dh fun σ1 f1 h1 l1=>?_;have ho1:=f1.get ho (by simp);conv=>whnf)|((first|refine Aa hbt ?_|refine Aa (AaY hv hn) ?_);rintro _ rfl;conv=>whnf)|(rw [h1];conv=>whnf)|(rw [ho1];conv=>whnf)|(refine WM rfl rfl hil rfl ho1 fun σ2 f2 h2=>?_;conv=>whnf)|(refine kA ?_;conv=>whnf)|(refine Br.mk (fun hc=>?_) fun hc=>?_<;>first|exact hc.elim|conv=>whnf)|(refine kB ?_))
    all_goals first
     |(rw [q1.del Ai hi hf]at h2
       have hlen2:i+(l.length-(i+1))=(Cc Op.bytesLess GP.key k l).length:=by rw[← q1.del Ai hi hf,List.length_append,List.length_take,List.length_drop];omega
       exact hA hn _ _ _ (.inr ⟨rfl,_,_,by rw[← hlen2];rfl,h2⟩) ((f1.mono (by simp)).trans f2) (fun o ho=>.inl ho))
   ·refine Ah rfl rfl ?_
    (conv=>whnf);repeat' (first|(refine Dh fun σ1 f1 h1 l1=>?_;have ho1:=f1.get ho (by simp);conv=>whnf)|((first|refine Aa hbt ?_|refine Aa (AaZ hv hn) ?_);rintro _ rfl;conv=>whnf)|(rw [h1];conv=>whnf)|(rw [ho1];conv=>whnf)|(refine F7 ho1 fun σ2 f2 h2 l2=>?_;conv=>whnf)|(refine kA ?_;conv=>whnf)|(refine Br.mk (fun hc=>?_) fun hc=>?_<;>first|exact hc.elim|conv=>whnf)|(refine kB ?_))
    have e:(vs GP.av l).set (Int.toNat (i:Int)) (BQ (l[i]).av (0+1) (AV.agg (List.take 5 (List.drop 0 v.av.cells))))=vs GP.av (A8 Op.bytesLess GP.key ⟨k,v⟩ l):=by
     have e0:BQ (l[i]).av (0+1) (AV.agg (List.take 5 (List.drop 0 v.av.cells)))=GP.av ⟨(l[i]).key,v⟩:=rfl
     rw[e0,hik,←q1.set (x:=⟨k,v⟩) Ai hi hf]
     simp[vs,List.map_set]
    replace h2:nth σ2 o=some (.arr g 6 true true (vs GP.av (A8 Op.bytesLess GP.key ⟨k,v⟩ l))):=by rw[← e];exact h2
    have hlen2:l.length=(A8 Op.bytesLess GP.key ⟨k,v⟩ l).length:=by rw[← q1.set (x:=⟨k,v⟩) Ai hi hf,List.length_set]
    exact hB hn (.inl hf) _ _ _ (.inr ⟨rfl,_,_,by rw[← hlen2];rfl,h2⟩) ((f1.mono (by simp)).trans f2) (fun o ho=>.inl ho)
  ·have hbt:∃i,AtK Op.bytesLess GP.key k l i∧Ag (Ac tab) 200 [.sl true (vs GP.av l),.str k,.fn 201 []] (· =.BG [.int .i64 (i:Nat),.bool false]):=by
        obtain⟨_,⟨i,fb,rfl,q1,q2⟩,hd⟩:=(hbs true).IJ
        cases fb
        ·exact⟨i,q1,hd⟩
        ·exact absurd (q2.1 rfl) hf
   obtain⟨i,q1,hbt⟩:=hbt
   have hil:=q1.le
   by_cases hn:isNull v
   ·refine Ah rfl rfl ?_
    (conv=>whnf);repeat' (first|(refine Dh fun σ1 f1 h1 l1=>?_;have ho1:=f1.get ho (by simp);conv=>whnf)|((first|refine Aa hbt ?_|refine Aa (AaY hv hn) ?_);rintro _ rfl;conv=>whnf)|(rw [h1];conv=>whnf)|(rw [ho1];conv=>whnf)|(refine kA ?_;conv=>whnf)|(refine Br.mk (fun hc=>?_) fun hc=>?_<;>first|exact hc.elim|conv=>whnf)|(refine kB ?_))
    all_goals first
     |(have e:Cc Op.bytesLess GP.key k l=l:=by
           rw[Cc,←q1.take,←q1.Yo Ai (fun x hx e=>hf ⟨x,hx,e⟩),List.take_append_drop]
       exact hA hn _ _ _ (by rw[e];exact .inr ⟨rfl,_,_,rfl,ho1⟩) (f1.mono (by simp)) (fun o ho=>.inl ho))
   ·refine Ah rfl rfl ?_
    (conv=>whnf);repeat' (first|(refine Dh fun σ1 f1 h1 l1=>?_;have ho1:=f1.get ho (by simp);conv=>whnf)|((first|refine Aa hbt ?_|refine Aa (AaZ hv hn) ?_);rintro _ rfl;conv=>whnf)|(rw [h1];conv=>whnf)|(rw [ho1];conv=>whnf)|(refine Fp ?_;conv=>whnf)|(refine Kz ?_;conv=>whnf)|(refine ZE (fv:=GP.av) (x:=⟨k,v⟩) rfl rfl (by omega) rfl hil ho1 fun σ2 f2 h2=>?_;conv=>whnf)|(refine kA ?_;conv=>whnf)|(refine Br.mk (fun hc=>?_) fun hc=>?_<;>first|exact hc.elim|conv=>whnf)|(refine kB ?_))
    all_goals first
     |exact hC hn hf (by omega) _ _ f1
     |(rw [q1.ins (x:=⟨k,v⟩) Ai (fun x hx e=>hf ⟨x,hx,e⟩)]at h2
       have hlen2:l.length+1=(A8 Op.bytesLess GP.key ⟨k,v⟩ l).length:=by rw[← q1.ins (x:=⟨k,v⟩) Ai (fun x hx e=>hf ⟨x,hx,e⟩),List.length_append,List.length_append,List.length_take,List.length_drop,List.length_singleton];omega
       exact hB hn (.inr (by omega)) _ _ _ (.inr ⟨rfl,_,_,by rw[← hlen2];rfl,h2⟩) ((f1.mono (by simp)).trans f2) (fun o ho=>.inl ho))
def Oi (op:Int):Prop:=op=3∨op=4∨op=5∨op=6∨op=8
instance (op:Int):Decidable (Oi op):=by unfold Oi;infer_instance
def Un (op:Int):Prop:=op=5∨op=8
instance (op:Int):Decidable (Un op):=by unfold Un;infer_instance
def Jw (z:Int):Prop:=1≤z∧z≤1000000
instance (z:Int):Decidable (Jw z):=by unfold Jw;infer_instance
def G7 (c:GC):Prop:=¬(1≤c.op∧c.op≤8)∨¬Jw c.id∨(¬ Oi c.op∧c.name≠[])∨(¬ Un c.op∧¬isNull c.v)∨(c.op=6∧(¬ Jw c.fr∨¬Jw c.to))∨(c.op≠6∧(c.fr≠0∨c.to≠0))
instance (c:GC):Decidable (G7 c):=by unfold G7;infer_instance
def Il (c:GC):Int:=if G7 c then 1 else if Oi c.op∧¬isName c.name then 6 else if Un c.op∧¬isNull c.v∧¬DW c.v then 8 else 0
theorem Ae1 {c:GC} (h:Il c=0):(1≤c.op∧c.op≤8)∧Jw c.id∧(Oi c.op→isName c.name)∧(c.op=6→Jw c.fr∧Jw c.to)∧(Un c.op→isNull c.v∨DW c.v):=by
 unfold Il at h
 split at h
 ·cases h
 rename_i h1
 split at h
 ·cases h
 rename_i h2
 split at h
 ·cases h
 rename_i h3
 simp only[G7,not_or,Classical.not_not,not_and]at h1 h2 h3
 refine⟨by omega,h1.2.1,fun hn=>h2 hn,fun h6=>?_,fun hv=>?_⟩
 ·have:=h1.2.2.2.2.1 h6;exact this
 ·by_cases hn:isNull c.v
  ·exact .inl hn
  ·exact .inr (h3 hv hn)
theorem idP {z:Int}:Ag (Ac tab) 138 [.int .i64 z] (· =.bool (decide (Jw z))):=by
 refine Ad rfl rfl ?_
 (conv=>whnf);repeat' (first  |(refine kA ?_;conv=>whnf)|(refine Br.mk (fun hc=>?_) fun hc=>?_<;>first|exact hc.elim|conv=>whnf)|(refine kB ?_))
 all_goals first|exact Bh (by unfold Jw;omega)|exact Ar (by unfold Jw;omega)
theorem Akg {op:Int}:Ag (Ac tab) 137 [.int .i64 op] (· =.BG [.agg [.bool (decide (op=6)),.bool (decide (Oi op)),.bool (decide (Un op))],.bool (decide (1≤op∧op≤8))]):=by
 refine Ad rfl rfl ?_
 (conv=>whnf);repeat' (first  |(refine kA ?_;conv=>whnf)|(refine Br.mk (fun hc=>?_) fun hc=>?_<;>first|exact hc.elim|conv=>whnf)|(refine kB ?_))
 all_goals first
  |(subst_vars;rfl)
  |(have e1:decide (op=6)=false:=decide_eq_false (by omega)
    have e2:decide (Oi op)=false:=decide_eq_false (by unfold Oi;omega)
    have e3:decide (Un op)=false:=decide_eq_false (by unfold Un;omega)
    have e4:decide (1≤op∧op≤8)=false:=decide_eq_false (by omega)
    rw[e1,e2,e3,e4];rfl)
theorem AqM {v:GV} (hv:v.ok):Ag (Ac tab) 139 [v.av] (· =.bool (decide (isNull v))):=by
 by_cases h:isNull v
 ·rw[decide_eq_true h];exact AaY hv h
 ·rw[decide_eq_false h];exact AaZ hv h
set_option maxHeartbeats 8000000 in
theorem AqN {c:GC} (h:c.ok):Ag (Ac tab) 83 [c.av] (· =.int .i64 (Il c)):=by
 obtain⟨op,z,fr,to,nm,v⟩:=c
 obtain⟨h1,h2,h3,h4,h5,h6⟩:=h
 have hn:=name1 (s:=nm) (by have:=h5;simp only[Ln]at this;omega)
 have hp:=AgT (v:=v) h6
 have hu:=AqM (v:=v) h6
 have hf:=Akg (op:=op)
 have e1:=Il
 have hd:op=1∨op=2∨op=3∨op=4∨op=5∨op=6∨op=7∨op=8∨¬(1≤op∧op≤8):=by omega
 rcases hd with rfl|rfl|rfl|rfl|rfl|rfl|rfl|rfl|hd
 all_goals
  clear e1
  refine Ad rfl rfl ?_
  show vC _ _ [(0,.agg [.int .i64 _,.int .i64 z,.int .i64 fr,.int .i64 to,.str nm,.int .i64 v.k,.int .i64 v.n,.int .i64 v.d,.str v.s,.sl v.nn v.l])] _ _
  (conv=>whnf);repeat' (first|(refine Aa hf ?_;rintro _ rfl;conv=>whnf)|(refine Bo idP (fun hi=>?_) (fun hi=>?_)<;>conv=>whnf)|(refine Bo hu (fun hz=>?_) (fun hz=>?_)<;>conv=>whnf)|(refine Bo hn (fun hx=>?_) (fun hx=>?_)<;>conv=>whnf)|(refine Bo hp (fun hy=>?_) (fun hy=>?_)<;>conv=>whnf)|(refine kA ?_;conv=>whnf)|(refine Br.mk (fun hc=>?_) fun hc=>?_<;>first|exact hc.elim|conv=>whnf)|(refine kB ?_))
 all_goals first
  |(exfalso;omega)
  |exact absurd (of_decide_eq_true (by assumption)) hd
  |(refine congrArg (AV.int .i64) ?_;simp_all [Il,G7,Oi,Un];done)
theorem Hd.diff {α:Type} {f:α→AV} {es:Nat} {σ:List Obj} {v:AV} {b c:Bool} {l:List α} (h:Hd f es σ v b l c) {o g es':Nat} {c':Bool} {xs:List AV} (ho:nth σ o=some (.arr g es' true c' xs)) (hne:es'≠es):o∉v.obj:=by
 intro hm
 obtain⟨g1,e1,nn,c1,x1,h1,h2⟩:=h.obj hm
 rw[ho]at h1
 simp only[Option.some.injEq,Obj.arr.injEq]at h1
 obtain⟨_,rfl,rfl,_,_⟩:=h1
 exact hne (h2 rfl)
theorem Hd.nodup {α:Type} {f:α→AV} {es:Nat} {σ:List Obj} {v:AV} {b c:Bool} {l:List α} (h:Hd f es σ v b l c):v.obj.Nodup:=by
 rcases h with⟨_,_,rfl|⟨o',g,es',rfl,h⟩⟩|⟨_,o',g,rfl,h⟩<;>simp[AV.obj]
theorem NQ {A B B' C:List Nat} {n:Nat} (h:(A++B++C).Nodup) (hb:B'.Nodup) (hB:∀o∈B',o∈B∨n≤o) (hlt:∀o,o∈A∨o∈C→o<n):(A++B'++C).Nodup:=by
 rw[List.nodup_append,List.nodup_append]at h ⊢
 obtain⟨⟨h1,h2,h3⟩,h4,h5⟩:=h
 refine⟨⟨h1,hb,fun a ha b hb'=>?_⟩,h4,fun a ha b hb'=>?_⟩
 ·rcases hB b hb' with h|h
  ·exact h3 a ha b h
  ·have:=hlt a (.inl ha);omega
 ·rcases List.mem_append.1 ha with ha|ha
  ·exact h5 a (List.mem_append_left _ ha) b hb'
  ·rcases hB a ha with h|h
   ·exact h5 a (List.mem_append_right _ h) b hb'
   ·have:=hlt b (.inr hb');omega
theorem EN.Ok.lt {σ:List Obj} {e:EN} (h:e.Ok σ):∀o∈e.objs,o<σ.length:=fun o ho=>by
 rcases List.mem_append.1 ho with ho|ho
 ·exact h.1.lt o ho
 ·exact h.2.lt o ho
theorem EE.Ok.lt {σ:List Obj} {e:EE} (h:e.Ok σ):∀o∈e.objs,o<σ.length:=fun o ho=>Hd.lt h o ho
theorem EN.Ok.keep {σ σ':List Obj} {e:EN} (h:e.Ok σ) (hk:∀o∈e.objs,nth σ' o=nth σ o):e.Ok σ':=
 ⟨h.1.keep fun o ho=>hk o (List.mem_append_left _ ho),h.2.keep fun o ho=>hk o (List.mem_append_right _ ho)⟩
theorem EE.Ok.keep {σ σ':List Obj} {e:EE} (h:e.Ok σ) (hk:∀o∈e.objs,nth σ' o=nth σ o):e.Ok σ':=Hd.keep h hk
section
variable {σ σ':List Obj} {d gd:Nat} {vN vE:AV} {nb eb:Bool} {N:List EN} {E:List EE} {x y:Int}
theorem NR {α:Type} {f:α→List Nat} {l:List α} {i:Nat} (hi:i<l.length):l.flatMap f=(l.take i).flatMap f++(f l[i]++(l.drop (i+1)).flatMap f):=by
 have e:l.take i++l[i]::l.drop (i+1)=l:=by rw[← List.drop_eq_getElem_cons hi,List.take_append_drop]
 rw[← List.flatMap_cons,←List.flatMap_append,e]
theorem NK {N:List EN} {E:List EE} {i:Nat} (hi:i<N.length):Cj N E=(N.take i).flatMap EN.objs++(N[i]).objs++((N.drop (i+1)).flatMap EN.objs++E.flatMap EE.objs):=by
 rw[Cj,NR hi]
 simp only[List.append_assoc]
theorem OW {N:List EN} {E:List EE} {i:Nat} (hi:i<E.length):Cj N E=(N.flatMap EN.objs++(E.take i).flatMap EE.objs)++(E[i]).objs++(E.drop (i+1)).flatMap EE.objs:=by
 rw[Cj,NR hi]
 simp only[List.append_assoc]
theorem J8 {N:List EN} {E:List EE} {e:EN} (he:e∈N) {o:Nat} (ho:o∈e.objs):o∈Cj N E:=List.mem_append_left _ (List.mem_flatMap.2 ⟨e,he,ho⟩)
theorem ML {N:List EN} {E:List EE} {e:EE} (he:e∈E) {o:Nat} (ho:o∈e.objs):o∈Cj N E:=List.mem_append_right _ (List.mem_flatMap.2 ⟨e,he,ho⟩)
theorem Ed.fr (h:Ed σ d gd vN vE nb eb N E x y) {F:List Nat} (hF:Fr σ σ' F) (ho:∀o∈d::(vN.obj++(vE.obj++Cj N E)),o∉F):Ed σ' d gd vN vE nb eb N E x y:=by
 obtain⟨cn,hn1,hn2⟩:=h.hn
 obtain⟨ce,he1,he2⟩:=h.he
 exact⟨hF.get h.box (ho _ (by simp)),⟨cn,hn1.keep fun o hm=>hF.eq o (hn1.lt o hm) (ho o (by simp[hm])),hn2⟩,⟨ce,he1.keep fun o hm=>hF.eq o (he1.lt o hm) (ho o (by simp[hm])),he2⟩,
  fun e he=>(h.hN e he).keep fun o hm=>hF.eq o ((h.hN e he).lt o hm) (ho o (by simp[J8 (E:=E) he hm])),
  fun e he=>(h.hE e he).keep fun o hm=>hF.eq o ((h.hE e he).lt o hm) (ho o (by simp[ML (N:=N) he hm])),h.nd,h.oN,h.oE⟩
theorem Ed.P8 (h:Ed σ d gd vN vE nb eb N E x y) (hF:Fr σ σ' []):Ed σ' d gd vN vE nb eb N E x y:=h.fr hF (by simp)
theorem Ed.QJ (h:Ed σ d gd vN vE nb eb N E x y):∀o∈d::(vN.obj++(vE.obj++Cj N E)),o<σ.length:=by
 intro o ho
 obtain⟨cn,hn1,_⟩:=h.hn
 obtain⟨ce,he1,_⟩:=h.he
 rcases List.mem_cons.1 ho with rfl|ho
 ·exact Dc h.box
 rcases List.mem_append.1 ho with ho|ho
 ·exact hn1.lt o ho
 rcases List.mem_append.1 ho with ho|ho
 ·exact he1.lt o ho
 rcases List.mem_append.1 ho with ho|ho<;>obtain⟨e,he,hm⟩:=List.mem_flatMap.1 ho
 ·exact(h.hN e he).lt o hm
 ·exact(h.hE e he).lt o hm
theorem Ed.nodes (h:Ed σ d gd vN vE nb eb N E x y) {F:List Nat} (hF:Fr σ σ' F) (hFE:∀o∈F,o∉vE.obj∧o∉E.flatMap EE.objs) {Zm:AV} {nb':Bool} {N':List EN} {x':Int} {c':Bool}
 (hb:nth σ' d=some (.arr gd 4 true false [.agg [Zm,vE,.int .i64 x',.int .i64 y]]))
 (hn:Hd EN.av 3 σ' Zm nb' N' c') (hc:c'=true→∀e∈N',e.av.closed=true) (hm:∀e∈N',e.Ok σ') (hnd:(d::(Zm.obj++(vE.obj++Cj N' E))).Nodup) (hv:Zm≠.sl false []):Ed σ' d gd Zm vE nb' eb N' E x' y:=by
 obtain⟨ce,he1,he2⟩:=h.he
 exact⟨hb,⟨c',hn,hc⟩,⟨ce,he1.keep fun o hm=>hF.eq o (he1.lt o hm) (fun hf=>(hFE o hf).1 hm),he2⟩,hm,
  fun e he=>(h.hE e he).keep fun o hm=>hF.eq o ((h.hE e he).lt o hm) (fun hf=>(hFE o hf).2 (List.mem_flatMap.2 ⟨e,he,hm⟩)),hnd,hv,h.oE⟩
theorem Ed.edges (h:Ed σ d gd vN vE nb eb N E x y) {F:List Nat} (hF:Fr σ σ' F) (hFE:∀o∈F,o∉vN.obj∧o∉N.flatMap EN.objs) {vE':AV} {eb':Bool} {E':List EE} {y':Int} {c':Bool}
 (hb:nth σ' d=some (.arr gd 4 true false [.agg [vN,vE',.int .i64 x,.int .i64 y']]))
 (hn:Hd EE.av 5 σ' vE' eb' E' c') (hc:c'=true→∀e∈E',e.av.closed=true) (hm:∀e∈E',e.Ok σ') (hnd:(d::(vN.obj++(vE'.obj++Cj N E'))).Nodup) (hv:vE'≠.sl false []):Ed σ' d gd vN vE' nb eb' N E' x y':=by
 obtain⟨cn,he1,he2⟩:=h.hn
 exact⟨hb,⟨cn,he1.keep fun o hm=>hF.eq o (he1.lt o hm) (fun hf=>(hFE o hf).1 hm),he2⟩,⟨c',hn,hc⟩,
  fun e he=>(h.hN e he).keep fun o hm=>hF.eq o ((h.hN e he).lt o hm) (fun hf=>(hFE o hf).2 (List.mem_flatMap.2 ⟨e,he,hm⟩)),hm,hnd,h.oN,hv⟩
theorem Ed.Jy (h:Ed σ d gd vN vE nb eb N E x y) {i:Nat} (hi:i<N.length):∀o,o∈vN.obj∨o∈(N[i]).objs→o≠d∧o∉vE.obj∧o∉E.flatMap EE.objs∧(o∈vN.obj→o∉Cj N E)∧(o∈(N[i]).objs→o∉vN.obj∧∀j (hj:j<N.length),j≠i→o∉(N[j]).objs):=by
 have hnd:=h.nd
 have hsp:=NK (E:=E) hi
 rw[List.nodup_cons,List.nodup_append,List.nodup_append]at hnd
 obtain⟨h1,h2,⟨h3,h4,h5⟩,h6⟩:=hnd
 have hmem:∀o∈(N[i]).objs,o∈Cj N E:=fun o ho=>J8 (List.getElem_mem hi) ho
 intro o ho
 refine⟨?_,?_,?_,?_,?_⟩
 ·rintro rfl
  rcases ho with ho|ho
  ·exact h1 (by simp[ho])
  ·exact h1 (by simp[hmem _ ho])
 ·intro hm
  rcases ho with ho|ho
  ·exact h6 o ho o (by simp[hm]) rfl
  ·exact h5 o hm o (hmem _ ho) rfl
 ·intro hm
  rcases ho with ho|ho
  ·exact h6 o ho o (by simp[Cj];exact .inr (.inr (by simpa using hm))) rfl
  ·rw[hsp,List.nodup_append]at h4
   exact h4.2.2 o (List.mem_append_right _ ho) o (List.mem_append_right _ hm) rfl
 ·exact fun hv hm=>h6 o hv o (by simp[hm]) rfl
 ·intro hoi
  refine⟨fun hv=>h6 o hv o (by simp[hmem _ hoi]) rfl,fun j hj hji hm=>?_⟩
  rw[hsp,List.nodup_append,List.nodup_append]at h4
  obtain⟨⟨_,_,k1⟩,_,k2⟩:=h4
  rcases Nat.lt_or_ge j i with hlt|hge
  ·exact k1 o (List.mem_flatMap.2 ⟨N[j],List.mem_take_iff_getElem.2 ⟨j,by omega,rfl⟩,hm⟩) o hoi rfl
  ·exact k2 o (List.mem_append_right _ hoi) o (List.mem_append_left _ (List.mem_flatMap.2 ⟨N[j],List.mem_drop_iff_getElem.2 ⟨j-(i+1),by omega,by congr 1;omega⟩,hm⟩)) rfl
theorem Ed.AcR (h:Ed σ d gd vN vE nb eb N E x y) {i:Nat} (hi:i<E.length):∀o,o∈vE.obj∨o∈(E[i]).objs→o≠d∧o∉vN.obj∧o∉N.flatMap EN.objs∧(o∈vE.obj→o∉Cj N E)∧(o∈(E[i]).objs→o∉vE.obj∧∀j (hj:j<E.length),j≠i→o∉(E[j]).objs):=by
 have hnd:=h.nd
 have hsp:=OW (N:=N) hi
 rw[List.nodup_cons,List.nodup_append,List.nodup_append]at hnd
 obtain⟨h1,h2,⟨h3,h4,h5⟩,h6⟩:=hnd
 have hmem:∀o∈(E[i]).objs,o∈Cj N E:=fun o ho=>ML (List.getElem_mem hi) ho
 intro o ho
 refine⟨?_,?_,?_,?_,?_⟩
 ·rintro rfl
  rcases ho with ho|ho
  ·exact h1 (by simp[ho])
  ·exact h1 (by simp[hmem _ ho])
 ·intro hm
  rcases ho with ho|ho
  ·exact h6 o hm o (by simp[ho]) rfl
  ·exact h6 o hm o (by simp[hmem _ ho]) rfl
 ·intro hm
  rcases ho with ho|ho
  ·exact h5 o ho o (List.mem_append_left _ hm) rfl
  ·rw[hsp,List.nodup_append,List.nodup_append]at h4
   exact h4.1.2.2 o (List.mem_append_left _ hm) o ho rfl
 ·exact fun hv hm=>h5 o hv o hm rfl
 ·intro hoi
  refine⟨fun hv=>h5 o hv o (hmem _ hoi) rfl,fun j hj hji hm=>?_⟩
  rw[hsp,List.nodup_append,List.nodup_append]at h4
  obtain⟨⟨_,_,k1⟩,_,k2⟩:=h4
  rcases Nat.lt_or_ge j i with hlt|hge
  ·exact k1 o (List.mem_append_right _ (List.mem_flatMap.2 ⟨E[j],List.mem_take_iff_getElem.2 ⟨j,by omega,rfl⟩,hm⟩)) o hoi rfl
  ·exact k2 o (List.mem_append_right _ hoi) o (List.mem_flatMap.2 ⟨E[j],List.mem_drop_iff_getElem.2 ⟨j-(i+1),by omega,by congr 1;omega⟩,hm⟩) rfl
theorem Lj {α:Type} {l:List α} {i:Nat} {a e:α} (he:e∈l.set i a):e=a∨∃j,∃hj:j<l.length,j≠i∧e=l[j]:=by
 obtain⟨j,hj,rfl⟩:=List.getElem_of_mem he
 rw[List.length_set]at hj
 by_cases h:j=i
 ·subst h;exact .inl (by simp)
 ·exact .inr ⟨j,hj,h,by rw[List.getElem_set_ne (Ne.symm h)]⟩
theorem Abz {α:Type} {f:α→List Nat} {l:List α} {i:Nat} {a:α} (hi:i<l.length):(l.set i a).flatMap f=(l.take i).flatMap f++(f a++(l.drop (i+1)).flatMap f):=by
 rw[List.set_eq_take_append_cons_drop,if_pos hi,List.flatMap_append,List.flatMap_cons]
theorem Ed.setNode {on gn:Nat} (h:Ed σ d gd (.own on gn 0 N.length) vE true eb N E x y) {i:Nat} (hi:i<N.length) {e':EN} {c':Bool} (hF:Fr σ σ' (on::(N[i]).objs))
 (hon:nth σ' on=some (.arr gn 3 true c' (vs EN.av (N.set i e')))) (hc:c'=true→∀e∈N.set i e',e.av.closed=true) (hok:e'.Ok σ') (hob:∀o∈e'.objs,o∈(N[i]).objs∨σ.length≤o) (hnd:e'.objs.Nodup):
 Ed σ' d gd (.own on gn 0 N.length) vE true eb (N.set i e') E x y:=by
 have hap:=h.Jy hi
 have hin:∀o∈on::(N[i]).objs,o∈(AV.own on gn 0 N.length).obj∨o∈(N[i]).objs:=fun o ho=>by
  rcases List.mem_cons.1 ho with rfl|ho
  ·exact .inl (by simp[AV.obj])
  ·exact .inr ho
 refine h.nodes hF (fun o ho=>⟨(hap o (hin o ho)).2.1,(hap o (hin o ho)).2.2.1⟩) (hF.get h.box fun hm=>(hap d (hin d hm)).1 rfl) (.inr ⟨rfl,on,gn,by rw[List.length_set],hon⟩) hc (fun e he=>?_) ?_ (by simp)
 ·rcases Lj he with rfl|⟨j,hj,hji,rfl⟩
  ·exact hok
  ·refine(h.hN _ (List.getElem_mem hj)).keep fun o hm=>hF.eq o ((h.hN _ (List.getElem_mem hj)).lt o hm) fun hf=>?_
   rcases List.mem_cons.1 hf with rfl|hf
   ·exact(hap o (.inl (by simp[AV.obj]))).2.2.2.1 (by simp[AV.obj]) (J8 (List.getElem_mem hj) hm)
   ·exact((hap o (.inr hf)).2.2.2.2 hf).2 j hj hji hm
 ·have h0:=h.nd
  have hl:=h.QJ
  rw[NK hi]at h0 hl
  have e1:d::((AV.own on gn 0 N.length).obj++(vE.obj++Cj (N.set i e') E))=(d::((AV.own on gn 0 N.length).obj++(vE.obj++(N.take i).flatMap EN.objs)))++e'.objs++((N.drop (i+1)).flatMap EN.objs++E.flatMap EE.objs):=by
   rw[Cj,Abz hi];simp only[List.append_assoc,List.cons_append]
  rw[e1]
  refine NQ (B:=(N[i]).objs) (n:=σ.length) (by simpa only[List.append_assoc,List.cons_append]using h0) hnd hob fun o ho=>hl o ?_
  simp only[List.mem_cons,List.mem_append]at ho ⊢
  rcases ho with(h|h|h|h)|h|h<;>simp[h]
theorem Ed.Ak3 {on gn:Nat} (h:Ed σ d gd vN (.own on gn 0 E.length) nb true N E x y) {i:Nat} (hi:i<E.length) {e':EE} {c':Bool} (hF:Fr σ σ' (on::(E[i]).objs))
 (hon:nth σ' on=some (.arr gn 5 true c' (vs EE.av (E.set i e')))) (hc:c'=true→∀e∈E.set i e',e.av.closed=true) (hok:e'.Ok σ') (hob:∀o∈e'.objs,o∈(E[i]).objs∨σ.length≤o) (hnd:e'.objs.Nodup):
 Ed σ' d gd vN (.own on gn 0 E.length) nb true N (E.set i e') x y:=by
 have hap:=h.AcR hi
 have hin:∀o∈on::(E[i]).objs,o∈(AV.own on gn 0 E.length).obj∨o∈(E[i]).objs:=fun o ho=>by
  rcases List.mem_cons.1 ho with rfl|ho
  ·exact .inl (by simp[AV.obj])
  ·exact .inr ho
 refine h.edges hF (fun o ho=>⟨(hap o (hin o ho)).2.1,(hap o (hin o ho)).2.2.1⟩) (hF.get h.box fun hm=>(hap d (hin d hm)).1 rfl) (.inr ⟨rfl,on,gn,by rw[List.length_set],hon⟩) hc (fun e he=>?_) ?_ (by simp)
 ·rcases Lj he with rfl|⟨j,hj,hji,rfl⟩
  ·exact hok
  ·refine(h.hE _ (List.getElem_mem hj)).keep fun o hm=>hF.eq o ((h.hE _ (List.getElem_mem hj)).lt o hm) fun hf=>?_
   rcases List.mem_cons.1 hf with rfl|hf
   ·exact(hap o (.inl (by simp[AV.obj]))).2.2.2.1 (by simp[AV.obj]) (ML (List.getElem_mem hj) hm)
   ·exact((hap o (.inr hf)).2.2.2.2 hf).2 j hj hji hm
 ·have h0:=h.nd
  have hl:=h.QJ
  rw[OW hi]at h0 hl
  have e1:d::(vN.obj++((AV.own on gn 0 E.length).obj++Cj N (E.set i e')))=(d::(vN.obj++((AV.own on gn 0 E.length).obj++(N.flatMap EN.objs++(E.take i).flatMap EE.objs))))++e'.objs++(E.drop (i+1)).flatMap EE.objs:=by
   rw[Cj,Abz hi];simp only[List.append_assoc,List.cons_append]
  rw[e1]
  refine NQ (B:=(E[i]).objs) (n:=σ.length) (by simpa only[List.append_assoc,List.cons_append]using h0) hnd hob fun o ho=>hl o ?_
  simp only[List.mem_cons,List.mem_append]at ho ⊢
  rcases ho with(h|h|h|h|h)|h<;>simp[h]
theorem Ed.Avj (h:Ed σ d gd vN vE nb eb N E x y) {F:List Nat} (hFo:∀o∈F,o=d∨o∈vN.obj):∀o∈vE.obj++Cj N E,o∉F:=by
 intro o ho hf
 have hnd:=h.nd
 rw[List.nodup_cons,List.nodup_append]at hnd
 rcases hFo o hf with rfl|hv
 ·exact hnd.1 (List.mem_append_right _ ho)
 ·exact hnd.2.2.2 o hv o ho rfl
theorem Ed.Avk (h:Ed σ d gd vN vE nb eb N E x y) {F:List Nat} (hFo:∀o∈F,o=d∨o∈vE.obj):∀o∈vN.obj++Cj N E,o∉F:=by
 intro o ho hf
 have hnd:=h.nd
 rw[List.nodup_cons,List.nodup_append,List.nodup_append]at hnd
 rcases hFo o hf with rfl|hv
 ·exact hnd.1 (by rcases List.mem_append.1 ho with ho|ho<;>simp[ho])
 ·rcases List.mem_append.1 ho with ho|ho
  ·exact hnd.2.2.2 o ho o (List.mem_append_left _ hv) rfl
  ·exact hnd.2.2.1.2.2 o hv o ho rfl
def eN0 (z:Int):EN:=⟨⟨z,false,[],false,[]⟩,.sl false [],.sl false []⟩
def eE0 (z fr to:Int) (ty:List UInt8):EE:=⟨⟨z,fr,to,ty,false,[]⟩,.sl false []⟩
theorem Ed.AoN (h:Ed σ d gd vN vE nb eb N E x y) {F:List Nat} (hF:Fr σ σ' F) (hFo:∀o∈F,o=d∨o∈vN.obj) {Zm:AV} {nb':Bool} {N':List EN} {x':Int} {c':Bool}
 (hb:nth σ' d=some (.arr gd 4 true false [.agg [Zm,vE,.int .i64 x',.int .i64 y]])) (hn:Hd EN.av 3 σ' Zm nb' N' c') (hc:c'=true→∀e∈N,e.av.closed=true)
 (hm:∀e∈N',e∈N∨∃z,e=eN0 z) (hs:(N'.flatMap EN.objs).Sublist (N.flatMap EN.objs)) (ho:∀o∈Zm.obj,o∈vN.obj∨σ.length≤o) (hv:Zm≠.sl false []):Ed σ' d gd Zm vE nb' eb N' E x' y:=by
 have hout:=h.Avj hFo
 refine h.nodes hF (fun o hf=>⟨fun hm=>hout o (List.mem_append_left _ hm) hf,fun hm=>hout o (List.mem_append_right _ (List.mem_append_right _ hm)) hf⟩) hb hn (fun hct e he=>?_) (fun e he=>?_) ?_ hv
 ·rcases hm e he with he|⟨z,rfl⟩
  ·exact hc hct e he
  ·rfl
 ·rcases hm e he with he|⟨z,rfl⟩
  ·exact(h.hN e he).keep fun o hm=>hF.eq o ((h.hN e he).lt o hm) (hout o (List.mem_append_right _ (J8 he hm)))
  ·exact⟨.inl ⟨rfl,rfl,.inl rfl⟩,.inl ⟨rfl,rfl,.inl rfl⟩⟩
 ·have hsub:(vE.obj++Cj N' E).Sublist (vE.obj++Cj N E):=(List.Sublist.refl _).append (hs.append (List.Sublist.refl _))
  have h0:(([d]++vN.obj)++(vE.obj++Cj N' E)).Nodup:=h.nd.sublist ((List.Sublist.refl ([d]++vN.obj)).append hsub)
  refine NQ (A:=[d]) (n:=σ.length) h0 hn.nodup ho fun o hm=>h.QJ o ?_
  rcases hm with hm|hm
  ·simp at hm;simp[hm]
  ·exact List.mem_cons_of_mem _ (List.mem_append_right _ (hsub.subset hm))
theorem Ed.Aot (h:Ed σ d gd vN vE nb eb N E x y) {F:List Nat} (hF:Fr σ σ' F) (hFo:∀o∈F,o=d∨o∈vE.obj) {vE':AV} {eb':Bool} {E':List EE} {y':Int} {c':Bool}
 (hb:nth σ' d=some (.arr gd 4 true false [.agg [vN,vE',.int .i64 x,.int .i64 y']])) (hn:Hd EE.av 5 σ' vE' eb' E' c') (hc:c'=true→∀e∈E,e.av.closed=true)
 (hm:∀e∈E',e∈E∨∃z a b s,e=eE0 z a b s) (hs:(E'.flatMap EE.objs).Sublist (E.flatMap EE.objs)) (ho:∀o∈vE'.obj,o∈vE.obj∨σ.length≤o) (hv:vE'≠.sl false []):Ed σ' d gd vN vE' nb eb' N E' x y':=by
 have hout:=h.Avk hFo
 refine h.edges hF (fun o hf=>⟨fun hm=>hout o (List.mem_append_left _ hm) hf,fun hm=>hout o (List.mem_append_right _ (List.mem_append_left _ hm)) hf⟩) hb hn (fun hct e he=>?_) (fun e he=>?_) ?_ hv
 ·rcases hm e he with he|⟨z,a,b,s,rfl⟩
  ·exact hc hct e he
  ·rfl
 ·rcases hm e he with he|⟨z,a,b,s,rfl⟩
  ·exact(h.hE e he).keep fun o hm=>hF.eq o ((h.hE e he).lt o hm) (hout o (List.mem_append_right _ (ML he hm)))
  ·exact .inl ⟨rfl,rfl,.inl rfl⟩
 ·have hsub:(Cj N E').Sublist (Cj N E):=(List.Sublist.refl _).append hs
  have h0:(([d]++vN.obj)++vE.obj++Cj N E').Nodup:=by
   have:=h.nd.sublist ((List.Sublist.refl (([d]++vN.obj)++vE.obj)).append hsub |>.trans (by simp[List.append_assoc]))
   exact this
  have h1:=NQ (A:=[d]++vN.obj) (n:=σ.length) h0 hn.nodup ho fun o hm=>h.QJ o (by
   rcases hm with hm|hm
   ·rcases List.mem_append.1 hm with hm|hm
    ·simp at hm;simp[hm]
    ·simp[hm]
   ·have:=hsub.subset hm
    simp[this])
  simpa[List.append_assoc]using h1
end
end AI
end Go.Proofs.YthnehejdkajjhaaGreatDoor
