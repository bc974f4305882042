/- component.Strong: the state in the store. A sorted list without its repeated elements. Leaving out what repeats (slices.Compact[[]int,int]), at any place of a store. Strings in a list. Strings in a list: the reference. HasType, both. A value in a list of values. The budget of a graph; names and types; entries. Small graphs, few strings. Names: the program's and the reference's. value.Plain and the reference's Plain: which values may be stored. Names in a list, increasing strings, labels and properties. -/
import Derived.Test.YtiimoiecghmebaaDoorFMad
import Derived.Test.YtiimoiecghmebaaDoorFSe
import Derived.Test.YtiimoiecghmebaaDoorFMae
import Derived.Test.YtiimoiecghmebaaDoorFMac
import Derived.Test.YtiimoiecghmebaaDoorFMaa
set_option linter.unusedVariables false
namespace Go.Proofs.YtiimoiecghmebaaDoor
namespace AI
theorem Jr {α:Type} {l r:List α} {i:Nat} (h:i<l.length):nth (l++r) i=nth l i:=by
 rw[Aj,Aj,List.getElem?_append_left h]
theorem LZ {α:Type} {l:List α} {x:α}:nth (l++[x]) l.length=some x:=by
 rw[Aj,List.getElem?_append_right (Nat.le_refl _)];simp
theorem MS {α:Type} {l:List α} {i:Nat} {x y:α} (h:nth l i=some y):nth (l.set i x) i=some x:=by
 rw[Aj,List.getElem?_set_self (Bj h)]
theorem Qv {α:Type} {l:List α} {i j:Nat} {x:α} (h:i≠j):nth (l.set i x) j=nth l j:=by
 rw[Aj,Aj,List.getElem?_set_ne h]
structure CB (σ σ':List Obj) (F:List Nat):Prop where
 len:σ.length≤σ'.length
 eq:∀o,o<σ.length→o∉F→nth σ' o=nth σ o
theorem CB.refl {σ:List Obj} {F:List Nat}:CB σ σ F:=⟨Nat.le_refl _,fun _ _ _=>rfl⟩
theorem CB.trans {σ σ1 σ2:List Obj} {F F':List Nat} (h:CB σ σ1 F) (k:CB σ1 σ2 F'):CB σ σ2 (F++F'):=
 ⟨Nat.le_trans h.len k.len,fun o ho hf=>by
  rw[List.mem_append]at hf
  exact(k.eq o (Nat.lt_of_lt_of_le ho h.len) fun e=>hf (.inr e)).trans (h.eq o ho fun e=>hf (.inl e))⟩
theorem CB.mono {σ σ':List Obj} {F F':List Nat} (h:CB σ σ' F) (hf:∀o∈F,o∈F'∨σ.length≤o):CB σ σ' F':=
 ⟨h.len,fun o ho hn=>h.eq o ho fun hm=>(hf o hm).elim hn fun h=>by omega⟩
theorem CB.get {σ σ':List Obj} {F:List Nat} {o:Nat} {x:Obj} (h:CB σ σ' F) (hx:nth σ o=some x) (hf:o∉F):nth σ' o=some x:=(h.eq o (Bj hx) hf).trans hx
theorem EW {σ:List Obj} {y:Obj} {K:List Obj→Prop} (h:∀σ',CB σ σ' []→nth σ' σ.length=some y→σ'.length=σ.length+1→K σ'):ZI σ y K:=
 (PK _ _ _).2 (h _ ⟨by simp,fun o ho _=>Jr ho⟩ LZ (by simp))
theorem BL {σ:List Obj} {o:Nat} {x y:Obj} {K:List Obj→Prop} (hx:nth σ o=some x) (h:∀σ',CB σ σ' [o]→nth σ' o=some y→σ'.length=σ.length→K σ'):PI σ o y K:=
 (CZ _ _ _ _).2 (h _ ⟨by simp,fun p hp hn=>Qv (by simpa using fun e=>hn (by simp[e]))⟩ (MS hx) (by simp))
theorem Ht {t o g es c':Nat} {sz:Option Nat} {σ:List Obj} {x:AV} {nn cl:Bool} (h:nth σ o=some (.arr g es nn cl [x])):Fh [(t,.ref o g 0 0)] ⟨σ,c'⟩ [.cell t sz]=(loadCells x.cells sz).map fun v=>[v]:=by
 have e:Env.get [(t,AV.ref o g 0 0)] t=.ref o g 0 0:=by simp[Env.get]
 have e2:Pq [(t,.ref o g 0 0)] ⟨σ,c'⟩ (.cell t sz)=loadCells x.cells sz:=by
  show(match Env.get [(t,AV.ref o g 0 0)] t with
   | .ref o g i off=>match nth σ o with
     |some (.arr g' _ _ _ elems)=>if g=g' then match nth elems i with
         |some x=>loadCells (x.cells.drop off) sz
         |none=>none
      else none
     |_=>none
   |_=>none)=_
  rw[e]
  simp only[h,if_true]
  rfl
 show(match Pq [(t,.ref o g 0 0)] ⟨σ,c'⟩ (.cell t sz),some []with
  |some v,some vs=>some (v::vs)
  |_,_=>none)=_
 rw[e2]
 cases loadCells x.cells sz<;>rfl
structure GS where
 a:Nat
 b:Nat
 c:Nat
 d:Nat
 e:Nat
 f:Nat
structure HS (G:GS) (nxM:List (AV×AV)) (cn:Bool) (σ:List Obj) (ixM Ae3:List (Int×Int)) (stk:AV) (onM:List (Int×Bool)) (smM:List (Int×Int)):Prop where
 h1:nth σ 1=some (.mp G.a cn nxM)
 h2:nth σ 2=some (.mp G.b true (OC ixM))
 h3:nth σ 3=some (.mp G.c true (OC Ae3))
 h4:nth σ 4=some (.mp G.d true (BQ onM))
 h5:nth σ 5=some (.mp G.e true (OC smM))
 h6:nth σ 6=some (.arr G.f 6 true false [.agg [.map 1 G.a,.map 2 G.b,.map 3 G.c,stk,.map 4 G.d,.map 5 G.e]])
section
variable {G:GS} {nxM:List (AV×AV)} {cn:Bool} {σ:List Obj} {ixM Ae3 smM:List (Int×Int)} {onM:List (Int×Bool)} {stk:AV}
theorem HS.keep {σ':List Obj} {F:List Nat} (h:HS G nxM cn σ ixM Ae3 stk onM smM) (f:CB σ σ' F) (hF:∀o∈F,6<o):HS G nxM cn σ' ixM Ae3 stk onM smM:=by
 have hn:∀o,o≤6→o∉F:=fun o ho hm=>by have:=hF o hm;omega
 exact⟨f.get h.h1 (hn _ (by omega)),f.get h.h2 (hn _ (by omega)),f.get h.h3 (hn _ (by omega)),f.get h.h4 (hn _ (by omega)),f.get h.h5 (hn _ (by omega)),f.get h.h6 (hn _ (by omega))⟩
end
section
open Go.Sort
theorem clr {C:Aq} {es o g off n:Nat} {nn cl:Bool} {x:AO} {env:Env} {σ:List Obj} {c:Nat} {elems:List AV} (hx:x.val env=.own o g off n) (ho:nth σ o=some (.arr g es nn cl elems)) (h:off+n≤elems.length) (hn:n≠0):
 Ae C (.clear es x) env ⟨σ,c⟩=some (.ok .undef,⟨σ.set o (.arr g es nn cl (elems.take off)),c⟩):=by
 simp[Ae,hx,ho,h,hn]
section
variable {α:Type} [Inhabited α]
theorem nPn {f:α→AV} {d:Array α} {m:Nat} (i:Nat) (hm:m=i) (h:i<d.size):nth (vs f d.toList) m=some (f d[i]!):=by
 subst hm
 have:=nP (f:=f) (d:=d) (z:=(m:Int)) m rfl h
 exact this
open Classical in
noncomputable def Pz (d:Array α):Nat→List α
 |0=>[]
 |n+1=>if 0<n∧d[n]! =d[n-1]! then Pz d n else Pz d n++[d[n]!]
theorem Lj {d:Array α} {n:Nat} (h0:0<n) (h:d[n]! =d[n-1]!):Pz d (n+1)=Pz d n:=if_pos ⟨h0,h⟩
theorem OL {d:Array α} {n:Nat} (h:0<n→¬d[n]! =d[n-1]!):Pz d (n+1)=Pz d n++[d[n]!]:=if_neg fun h1=>h h1.1 h1.2
theorem Wh {d:Array α}:∀n,n≤d.size→(∀ j,0<j→j<n→¬d[j]! =d[j-1]!)→Pz d n=d.toList.take n
 |0,_,_=>by simp[Pz]
 |n+1,hn,h=>by
  rw[OL (fun h0=>h n h0 (by omega)),Wh n (by omega) fun j h0 hj=>h j h0 (by omega),List.take_succ_eq_append_getElem (by simp;omega)]
  congr 2
  rw[getElem!_pos d n (by omega)]
  simp
theorem QO {d:Array α} {x:α}:∀n,n≤d.size→(x∈Pz d n↔x∈d.toList.take n)
 |0,_=>by simp[Pz]
 |n+1,hn=>by
  have e:d[n]! =d.toList[n]'(by simp;omega):=by rw[getElem!_pos d n (by omega)];simp
  rw[List.take_succ_eq_append_getElem (by simp;omega),List.mem_append,List.mem_singleton,←e]
  by_cases h:0<n∧d[n]! =d[n-1]!
  ·rw[Lj h.1 h.2,QO n (by omega)]
   refine⟨Or.inl,fun h1=>h1.elim id ?_⟩
   rintro rfl
   rw[h.2,getElem!_pos d (n-1) (by omega)]
   rw[List.mem_take_iff_getElem]
   exact⟨n-1,by simp;omega,by simp⟩
  ·rw[OL (fun h0 h1=>h ⟨h0,h1⟩),List.mem_append,List.mem_singleton,QO n (by omega)]
theorem AbX {lt:α→α→Bool} (hS:SWO lt) (htot:∀x y,lt x y=false→lt y x=false→x=y) {d:Array α} (hs:SortedIn lt 0 d.size d):∀n,n≤d.size→(Pz d n).Pairwise (fun x y=>lt x y=true)
 |0,_=>by simp[Pz]
 |n+1,hn=>by
  have ih:=AbX hS htot hs n (by omega)
  by_cases h:0<n∧d[n]! =d[n-1]!
  ·rw[Lj h.1 h.2];exact ih
  ·rw[OL (fun h0 h1=>h ⟨h0,h1⟩)]
   refine List.pairwise_append.2 ⟨ih,List.pairwise_singleton ..,fun x hx y hy=>?_⟩
   obtain rfl:=List.mem_singleton.1 hy
   rw[QO n (by omega),List.mem_take_iff_getElem]at hx
   obtain⟨j,hj,rfl⟩:=hx
   simp only[Array.length_toList]at hj
   have ej:d.toList[j]'(by simp;omega)=d[j]!:=by rw[getElem!_pos d j (by omega)];simp
   rw[ej]
   cases hc:lt d[j]! d[n]! with
   |true=>rfl
   |false=>
    exfalso
    have h1:=hs j n (by omega) (by omega) (by omega)
    have e1:=htot _ _ hc h1
    refine h ⟨by omega,?_⟩
    rcases Nat.lt_or_ge j (n-1)with h2|h2
    ·have h3:=hs j (n-1) (by omega) h2 (by omega)
     have h4:=hs (n-1) n (by omega) (by omega) (by omega)
     rw[e1]at h3
     exact htot _ _ h4 h3
    ·obtain rfl:j=n-1:=by omega
     exact e1.symm
omit [Inhabited α]in
theorem MK {lt:α→α→Bool} (hS:SWO lt):∀{a b:List α},a.Pairwise (fun x y=>lt x y=true)→b.Pairwise (fun x y=>lt x y=true)→(∀ x,x∈a↔x∈b)→a=b
 |[],[],_,_,_=>rfl
 |[],y::b,_,_,h=>absurd ((h y).2 (List.mem_cons_self ..)) (by simp)
 |x::a,[],_,_,h=>absurd ((h x).1 (List.mem_cons_self ..)) (by simp)
 |x::a,y::b,ha,hb,h=>by
  have ha':=List.pairwise_cons.1 ha
  have hb':=List.pairwise_cons.1 hb
  have hxy:x=y:=by
   rcases List.mem_cons.1 ((h x).1 (List.mem_cons_self ..))with e|hx
   ·exact e
   rcases List.mem_cons.1 ((h y).2 (List.mem_cons_self ..))with e|hy
   ·exact e.symm
   have:=hS.trans _ _ _ (ha'.1 y hy) (hb'.1 x hx)
   rw[hS.irrefl]at this;cases this
  subst hxy
  rw[MK hS ha'.2 hb'.2 fun z=>?_]
  have hn1:x∉a:=fun h1=>by have:=ha'.1 x h1;rw[hS.irrefl]at this;cases this
  have hn2:x∉b:=fun h1=>by have:=hb'.1 x h1;rw[hS.irrefl]at this;cases this
  have:=h z
  simp only[List.mem_cons]at this
  constructor
  ·intro hz
   rcases this.1 (Or.inr hz)with rfl|h2
   ·exact absurd hz hn1
   ·exact h2
  ·intro hz
   rcases this.2 (Or.inr hz)with rfl|h2
   ·exact absurd hz hn2
   ·exact h2
end
end
section
open Go.Sort
theorem MG {pre post:List Obj} {x:Obj}:nth (pre++x::post) pre.length=some x:=by rw[Aj];simp
theorem Lr {pre post:List Obj} {x y:Obj}:(pre++x::post).set pre.length y=pre++y::post:=by simp
theorem Ahf {σ:List Obj} {o:Nat} {x:Obj} (h:nth σ o=some x):∃pre post,σ=pre++x::post∧pre.length=o:=by
 rw[Aj]at h
 obtain⟨hl,rfl⟩:=List.getElem?_eq_some_iff.1 h
 exact⟨σ.take o,σ.drop (o+1),by rw[← List.drop_eq_getElem_cons hl,List.take_append_drop],by rw[List.length_take];omega⟩
set_option maxHeartbeats 2000000 in
theorem AlD {pre post:List Obj} {g len c:Nat} {nn cl:Bool} {d:Array Int} (hl:d.size=len) (hs:len<2^61):
 DC (Ad tab) 30 [.own pre.length g 0 len] ⟨(pre++.arr g 1 nn cl (vs (.int .i64) d.toList)::post),c⟩ fun out s'=>∃c' T,out=.ok (.own pre.length g 0 (Pz d len).length)∧s'=⟨(pre++.arr g 1 nn cl (vs (.int .i64) (Pz d len++T))::post),c'⟩:=by
 have hend:(∀ j,0<j→j<len→¬d[j]! =d[j-1]!)→Pz d len=d.toList:=fun h=>by
  rw[Wh len (by omega) h,List.take_of_length_le (by simp[hl])]
 refine LX rfl rfl ?_
 (conv=>whnf);repeat' (first|(rw [MG];conv=>whnf)|(rw [CZ,Lr];conv=>whnf)|(refine kA ?_;conv=>whnf)|(refine Br.mk (fun hc=>?_) fun hc=>?_<;>first|exact hc.elim|conv=>whnf)|(refine kB ?_))
 ·have e:=hend (fun j h0 hj=>absurd h0 (by omega))
  rw[e,show d.toList.length=len by simpa using hl]
  exact⟨_,[],rfl,by rw[List.append_nil]⟩
 refine Au (fun m env s=>∃(k c:Nat),m=len-k∧0<k∧(∀ j,0<j→j<k→¬d[j]! =d[j-1]!)∧env=[(0,.own pre.length g 0 len),(3,.int .i64 k)]∧s=⟨(pre++.arr g 1 nn cl (vs (.int .i64) d.toList)::post),c⟩) ?_ _ _ _ ⟨1,c,rfl,by omega,fun j h0 h1=>absurd h0 (by omega),rfl,rfl⟩
 rintro _ _ _ ⟨k,c,rfl,hk0,hk,rfl,rfl⟩
 refine⟨rfl,?_⟩
 (conv=>whnf);repeat' (first|(rw [MG];conv=>whnf)|(rw [CZ,Lr];conv=>whnf)|((with_reducible show Qx _ _ _);refine nPK (k) ?_;conv=>whnf)|((with_reducible show Qx _ _ _);refine nPK (k-1) ?_;conv=>whnf)|(refine kA ?_;conv=>whnf)|(refine Br.mk (fun hc=>?_) fun hc=>?_<;>first|exact hc.elim|conv=>whnf)|(refine kB ?_))
 ·have h1:Pz d (k+1)=Pz d k:=Lj hk0 (by assumption)
  have h2:Pz d k=d.toList.take k:=Wh k (by omega) hk
  obtain⟨k,rfl⟩:∃k',k=k'+1:=⟨k-1,by omega⟩
  refine Au (fun m env s=>∃(k2 c w:Nat) (E:Array Int),m=len-(k+1)-k2∧0<k2∧k+1+k2≤len∧E.size=len∧w=(Pz d (k+1+k2)).length∧w<k+1+k2∧E.toList.take w=Pz d (k+1+k2)∧(∀ j,k+1+k2≤j+1→j<len→E[j]! =d[j]!)∧env=[(0,.own pre.length g 0 len),(3,.int .i64 w),(4,.own pre.length g (k+1) (len-(k+1))),(5,.int .i64 k2)]∧s=⟨(pre++.arr g 1 nn cl (vs (.int .i64) E.toList)::post),c⟩) ?_ _ _ _ ⟨1,_,k+1,d,rfl,by omega,by omega,hl,by rw[h1,h2];simp;omega,by omega,by rw[h1,h2],fun j _ _=>rfl,rfl,rfl⟩
  rintro _ _ _ ⟨k2,c,w,E,rfl,hk2,hkl,hE,hw,hwk,hW,hej,rfl,rfl⟩
  refine⟨rfl,?_⟩
  (conv=>whnf);repeat' (first|(rw [MG];conv=>whnf)|(rw [CZ,Lr];conv=>whnf)|(apply AA;(· exact nPn (k+1+k2) (by omega) (by first|omega|(simp;omega)));conv=>whnf)|(apply AA;(· exact nPn (k+1+k2-1) (by omega) (by first|omega|(simp;omega)));conv=>whnf)|((with_reducible show Qx _ _ _);refine nPK (w) ?_;conv=>whnf)|((with_reducible show eqK _ _);refine tPK AgW (w) ?_;conv=>whnf)|(refine kA ?_;conv=>whnf)|(refine Br.mk (fun hc=>?_) fun hc=>?_<;>first|exact hc.elim|conv=>whnf)|(refine kB ?_))
  ·have e1:=hej (k+1+k2) (by omega) (by omega)
   have e2:=hej (k+1+k2-1) (by omega) (by omega)
   rw[e1,e2]at hc
   exact again.mk ⟨_,by omega,k2+1,_,w,E,rfl,by omega,by omega,hE,by rw[hw,←Lj (d:=d) (n:=k+1+k2) (by omega) hc];rfl,by omega,by rw[hW,←Lj (d:=d) (n:=k+1+k2) (by omega) hc];rfl,fun j h1 h2=>hej j (by omega) h2,rfl,rfl⟩
  ·have e1:=hej (k+1+k2) (by omega) (by omega)
   have e2:=hej (k+1+k2-1) (by omega) (by omega)
   rw[e1,e2]at hc
   have e3:Pz d (k+1+(k2+1))=Pz d (k+1+k2)++[d[k+1+k2]!]:=OL fun _=>hc
   refine again.mk ⟨_,by omega,k2+1,_,w+1,E.setIfInBounds w E[k+1+k2]!,rfl,by omega,by omega,by simpa using hE,by rw[e3,List.length_append,←hw];rfl,by omega,?_,fun j h1 h2=>?_,rfl,rfl⟩
   ·rw[Array.toList_setIfInBounds,List.take_succ_eq_append_getElem (by simp;omega),e3,←hW,e1]
    simp[List.take_set_of_le]
   ·rw[← hej j (by omega) h2,getElem!_pos _ j (by simp;omega),getElem!_pos E j (by omega),Array.getElem_setIfInBounds_ne (by omega) (by omega)]
  ·have AlE:k+1+k2=len:=by omega
   rw[AlE]at hW hw hwk
   refine Bv (clr (n:=len-w) rfl MG (by simp;omega) (by omega)) ?_
   rw[Lr]
   have e4:List.take (Int.toNat (w:Int)) (vs (.int .i64) E.toList)=vs (.int .i64) (Pz d len++[]):=by
        rw[List.append_nil,←hW];simp[vs,List.map_take]
   (conv=>whnf);repeat' (first|(rw [MG];conv=>whnf)|(rw [CZ,Lr];conv=>whnf)|(refine kA ?_;conv=>whnf)|(refine Br.mk (fun hc=>?_) fun hc=>?_<;>first|exact hc.elim|conv=>whnf)|(refine kB ?_))
   refine⟨c,[],by rw[← hw];rfl,?_⟩
   rw[← e4]
 ·exact again.mk ⟨_,by omega,k+1,_,rfl,by omega,fun j h0 hj=>by
   rcases Nat.lt_or_ge j k with h|h
   ·exact hk j h0 h
   ·obtain rfl:j=k:=by omega
    first|exact hc|assumption,rfl,rfl⟩
 ·have e:=hend (fun j h0 hj=>hk j h0 (by omega))
  rw[e,show d.toList.length=len by simpa using hl]
  exact⟨_,[],rfl,by rw[List.append_nil]⟩
theorem AkJ {σ:List Obj} {o g len c:Nat} {nn cl:Bool} {L:List Int} (h:nth σ o=some (.arr g 1 nn cl (vs (.int .i64) L))) (hl:L.length=len) (hs:len≤1099511627776):
 DC (Ad tab) 28 [.own o g 0 len] ⟨σ,c⟩ fun out s'=>∃σ',out=.ok (.Dy [])∧s'=⟨σ',c⟩∧CB σ σ' [o]∧nth σ' o=some (.arr g 1 nn cl (vs (.int .i64) (FQ L)))∧σ'.length=σ.length:=by
 have hsp:Gn [.own o g 0 len] ⟨σ,c⟩=some (.ok (.Dy []),⟨σ.set o (.arr g 1 nn cl (vs (.int .i64) (FQ L))),c⟩):=by
  show(match nth σ o with|some (.arr g' es nn cl xs)=>if g=g'∧es=1∧len=xs.length∧len≤1099511627776 then _ else none|_=>none)=_
  rw[h]
  show(if g=g∧1=1∧len=(vs (AV.int .i64) L).length∧len≤1099511627776 then _ else none)=_
  rw[if_pos ⟨rfl,rfl,by rw[lV,hl],hs⟩,Aao]
  rfl
 exact Pj rfl hsp ⟨_,rfl,rfl,⟨by simp,fun p hp hn=>Qv (by simpa using fun e=>hn (by simp[e]))⟩,MS h,by simp⟩
theorem AkH {σ:List Obj} {c:Nat}:DC (Ad tab) 28 [.sl false []] ⟨σ,c⟩ fun out s'=>out=.ok (.Dy [])∧s'=⟨σ,c⟩:=by
 have hsp:Gn [.sl false []] ⟨σ,c⟩=some (.ok (.Dy []),⟨σ,c⟩):=rfl
 exact Pj rfl hsp ⟨rfl,rfl⟩
theorem AkK {σ:List Obj} {o g len c:Nat} {nn cl:Bool} {L:List Int} (h:nth σ o=some (.arr g 1 nn cl (vs (.int .i64) L))) (hl:L.length=len) (hs:len<2^61):
 DC (Ad tab) 30 [.own o g 0 len] ⟨σ,c⟩ fun out s'=>∃σ' c' T,out=.ok (.own o g 0 (Pz L.toArray len).length)∧s'=⟨σ',c'⟩∧CB σ σ' [o]∧nth σ' o=some (.arr g 1 nn cl (vs (.int .i64) (Pz L.toArray len++T)))∧σ'.length=σ.length:=by
 obtain⟨pre,post,rfl,rfl⟩:=Ahf h
 refine(AlD (d:=L.toArray) (pre:=pre) (post:=post) (g:=g) (c:=c) (nn:=nn) (cl:=cl) (by simpa using hl) hs).mono ?_
 rintro _ _ ⟨c',T,rfl,rfl⟩
 refine⟨_,c',T,rfl,rfl,⟨by simp,fun p hp hn=>?_⟩,MG,by simp⟩
 have hne:p≠pre.length:=fun e=>hn (by simp[e])
 rw[Aj,Aj]
 by_cases hlt:p<pre.length
 ·rw[List.getElem?_append_left hlt,List.getElem?_append_left hlt]
 ·rw[List.getElem?_append_right (by omega),List.getElem?_append_right (by omega)]
  obtain⟨q,hq⟩:∃q,p-pre.length=q+1:=⟨p-pre.length-1,by omega⟩
  rw[hq];rfl
theorem AkI {σ:List Obj} {c:Nat}:DC (Ad tab) 30 [.sl false []] ⟨σ,c⟩ fun out s'=>out=.ok (.sl false [])∧s'=⟨σ,c⟩:=by
 refine LX rfl rfl ?_
 (conv=>whnf);repeat' (first  |(refine kA ?_;conv=>whnf)|(refine Br.mk (fun hc=>?_) fun hc=>?_<;>first|exact hc.elim|conv=>whnf)|(refine kB ?_))
 all_goals first|exact⟨rfl,rfl⟩|(exfalso;omega)
end
theorem AjR {l:List (List UInt8)} {x:List UInt8} {nn:Bool} (hl:l.length<2^63):Aw (Ad tab) 65 [.sl nn (vs .str l),.str x] (fun v=>∃z,v=.int .i64 z∧(0≤z↔x∈l)):=by
 refine Ah rfl rfl ?_
 (conv=>whnf);repeat' (first|(refine kA ?_;conv=>whnf)|(refine Br.mk (fun hc=>?_) fun hc=>?_<;>first|exact hc.elim|conv=>whnf)  |(refine kB ?_))
 refine Au (fun m env s=>∃i:Nat,m=l.length-i∧env=[(0,.sl nn (vs .str l)),(1,.str x),(7,.int .i64 l.length),(8,.int .i64 i)]∧s=⟨[],0⟩∧x∉l.take i) ?_ _ _ _ ⟨0,rfl,by simp,rfl,by simp⟩
 rintro _ _ _ ⟨i,rfl,rfl,rfl,hx⟩
 refine⟨rfl,?_⟩
 (conv=>whnf);repeat' (first|(refine kA ?_;conv=>whnf)|(refine Br.mk (fun hc=>?_) fun hc=>?_<;>first|exact hc.elim|conv=>whnf)  |(refine kB ?_))
 ·subst hc;exact⟨_,rfl,by simp⟩
 ·exact again.mk ⟨_,by omega,i+1,rfl,rfl,rfl,nms (by omega) hx (fun h=>hc h.symm)⟩
 ·rw[Eo hc]at hx;exact⟨_,rfl,by simp[hx]⟩
theorem AhI {l:List (List UInt8)} {x:List UInt8} {nn:Bool} (hl:l.length<2^63):Aw (Ad tab) 51 [.sl nn (vs .str l),.str x] (· =.bool (decide (x∈l))):=by
 refine Ah rfl rfl ?_
 (conv=>whnf);repeat' (first|(refine kA ?_;conv=>whnf)|(refine Br.mk (fun hc=>?_) fun hc=>?_<;>first|exact hc.elim|conv=>whnf)  |(refine kB ?_))
 refine Ac (AjR hl) ?_
 rintro _ ⟨z,rfl,hz⟩
 (conv=>whnf);repeat' (first|(refine kA ?_;conv=>whnf)|(refine Br.mk (fun hc=>?_) fun hc=>?_<;>first|exact hc.elim|conv=>whnf)  |(refine kB ?_))
 ·exact Fg (hz.1 hc)
 ·exact Dn (mt hz.2 hc)
def HT (l:List (List UInt8)) (e:GE):Prop:=l.length=0∨e.ty∈l
instance (l:List (List UInt8)) (e:GE):Decidable (HT l e):=by unfold HT;infer_instance
theorem SB {l:List (List UInt8)} {e:GE} {nn:Bool} (hl:l.length<2^63):Aw (Ad tab) 27 [e.av,.sl nn (vs .str l)] (· =.bool (decide (HT l e))):=by
 refine Ah rfl rfl ?_
 (conv=>whnf);repeat' (first|(refine kA ?_;conv=>whnf)|(refine Br.mk (fun hc=>?_) fun hc=>?_<;>first|exact hc.elim|conv=>whnf)|(refine FD (AhI hl) (fun hc=>?_) (fun hc=>?_)<;>conv=>whnf)|(refine kB ?_))
 all_goals first|exact Fg (by unfold HT;first|(left;omega)|(right;assumption))|exact Dn (by unfold HT;rintro(h|h);omega;contradiction)
theorem Ad0 {l:List AV} (h:∀x∈l,Like Tryd.prog 93 x) (i:Nat):
 ∃g:GV,∀hi:i<l.length,nth l (Int.toNat (Nat.cast i))=some g.av∧l[i]=g.av∧g.ok:=by
 by_cases hi:i<l.length
 ·obtain⟨g,e,hg⟩:=Yu (h _ (List.getElem_mem hi))
  exact⟨g,fun _=>⟨by rw[← e];exact nR hi,e,hg⟩⟩
 ·exact⟨⟨0,0,0,[],true,[]⟩,fun h=>absurd h hi⟩
def Pg:Nat→AV→Prop
 |0,_=>False
 |d+1,a=>∃g:GV,a=g.av∧g.ok∧g.s.length≤101000∧g.l.length≤2000∧∀x∈g.l,Pg d x
theorem wei:∀(d:Nat),d≤12→∀{g:GV} (hg:g.ok) {left:Int} (h1:-184467440737095530≤left) (h2:left≤2000),
 Aw (Ad tab) 40 [g.av,.int .i64 left,.int .i64 d] (fun v=>∃r,v=.int .i64 r∧-368934881474191048≤r∧r≤1999∧(0≤r→r+1≤left∧Pg d g.av)):=by
 intro d
 induction d with
 |zero=>
  intro _ g hg left h1 h2
  obtain⟨g1,g2,g3,g4,g5,g6,g7⟩:=hg
  unfold Ln at g4 g5
  refine Ah rfl rfl ?_
  (conv=>whnf);repeat' (first|(refine kA ?_;conv=>whnf)|(refine Br.mk (fun hc=>?_) fun hc=>?_<;>first|exact hc.elim|conv=>whnf)|(refine Us (by omega) ?_;conv=>whnf)|(refine kB ?_))
  all_goals exact⟨_,rfl,by omega,by omega,fun h=>absurd h (by omega)⟩
 |succ d ih=>
  intro hd g hg left h1 h2
  obtain⟨g1,g2,g3,g4,g5,g6,g7⟩:=hg
  unfold Ln at g4 g5
  refine Ah rfl rfl ?_
  (conv=>whnf);repeat' (first|(refine kA ?_;conv=>whnf)|(refine Br.mk (fun hc=>?_) fun hc=>?_<;>first|exact hc.elim|conv=>whnf)|(refine Us (by omega) ?_;conv=>whnf)|(refine kB ?_))
  have hw:∀{g:GV} (hg:g.ok) {left:Int} (h1:-184467440737095530≤left) (h2:left≤2000),
        Aw (Ad tab) 40 [g.av,.int .i64 left,.int .i64 (((d+1:Nat):Int)-1)] (fun v=>∃r,v=.int .i64 r∧-368934881474191048≤r∧r≤1999∧(0≤r→r+1≤left∧Pg d g.av)):=by
   rw[show ((d+1:Nat):Int)-1=(d:Int) by omega]
   exact ih (by omega)
  refine Au (fun m env s=>∃(i:Nat) (cur:Int),m=g.l.length-i∧env=[(1,.int .i64 cur),(2,.int .i64 (d+1:Nat)),(3,.ref 0 0 0 0),(7,.int .i64 i)]∧s=⟨[.arr 0 5 true true [g.av]],1⟩∧
   -368934881474191048≤cur∧cur≤1999∧(0≤cur→cur+i+g.s.length / 50+1≤left∧∀x∈g.l.take i,Pg d x)) ?_ _ _ _ ⟨0,_,rfl,rfl,rfl,by omega,by omega,fun h=>⟨by omega,by simp⟩⟩
  rintro _ _ _ ⟨i,cur,rfl,rfl,rfl,b1,b2,hx⟩
  refine⟨rfl,?_⟩
  obtain⟨gx,hgx⟩:=Ad0 g7 i
  (conv=>whnf);repeat' (first|(refine kA ?_;conv=>whnf)|(refine Br.mk (fun hc=>?_) fun hc=>?_<;>first|exact hc.elim|conv=>whnf)|(apply AA;(· exact(hgx (by omega)).1);conv=>whnf)|(refine kB ?_))
  ·obtain⟨_,ge,gl⟩:=hgx (by omega)
   refine Ac (hw gl (by omega) (by omega)) ?_
   rintro _ ⟨r,rfl,r1,r2,r3⟩
   (conv=>whnf);repeat' (first|(refine kA ?_;conv=>whnf)|(refine Br.mk (fun hc=>?_) fun hc=>?_<;>first|exact hc.elim|conv=>whnf)  |(refine kB ?_))
   exact again.mk ⟨_,by omega,i+1,r,rfl,rfl,rfl,by omega,by omega,fun h=>⟨by have:=hx (by omega);have:=r3 h;omega,CO (by omega) (hx (by omega)).2 (ge▸(r3 h).2)⟩⟩
  ·exact⟨_,rfl,by omega,by omega,fun h=>absurd h (by omega)⟩
  ·refine⟨_,rfl,by omega,by omega,fun h=>?_⟩
   obtain⟨x1,x2⟩:=hx h
   rw[Eo hc]at x2
   exact⟨by omega,g,rfl,⟨g1,g2,g3,g4,g5,g6,g7⟩,by omega,by omega,x2⟩
theorem weigh {ps:List GP} {nn:Bool} (hl:Ln ps) (hp:∀p∈ps,p.ok) {left:Int} (h1:-9223372036854775808≤left) (h2:left≤2000):
 Aw (Ad tab) 22 [.sl nn (vs GP.av ps),.int .i64 left] (fun v=>∃r,v=.int .i64 r∧-9223372036854775808≤r∧r≤2000∧(0≤r→r+ps.length≤left∧∀p∈ps,p.key.length≤101000∧Pg 12 p.v.av)):=by
 unfold Ln at hl
 refine Ah rfl rfl ?_
 (conv=>whnf);repeat' (first|(refine kA ?_;conv=>whnf)|(refine Br.mk (fun hc=>?_) fun hc=>?_<;>first|exact hc.elim|conv=>whnf)  |(refine kB ?_))
 refine Au (fun m env s=>∃(i:Nat) (cur:Int),m=ps.length-i∧env=[(0,.sl nn (vs GP.av ps)),(1,.int .i64 cur),(5,.int .i64 i)]∧s=⟨[],0⟩∧
  -9223372036854775808≤cur∧cur≤2000∧(0≤cur→cur+i≤left∧∀p∈ps.take i,p.key.length≤101000∧Pg 12 p.v.av)) ?_ _ _ _ ⟨0,_,rfl,rfl,rfl,by omega,by omega,fun h=>⟨by omega,by simp⟩⟩
 rintro _ _ _ ⟨i,cur,rfl,rfl,rfl,b1,b2,hx⟩
 refine⟨rfl,?_⟩
 have hat:∀(h:i<ps.length),(ps[i]).ok:=fun h=>hp _ (List.getElem_mem _)
 have hk:∀(h:i<ps.length),(ps[i]).key.length<2^63:=fun h=>(hat h).1
 (conv=>whnf);repeat' (first|(refine kA ?_;conv=>whnf)|(refine Br.mk (fun hc=>?_) fun hc=>?_<;>first|exact hc.elim|conv=>whnf)|(refine Us (hk (by omega)) ?_;conv=>whnf)|(have hwr:=hk (by omega);apply CP;(· exact wrap_i64 (by omega) (by omega));clear hwr;conv=>whnf)|(refine kB ?_))
 ·refine Ac (wei 12 (by omega) (hat (by omega)).2 (by have:=hk (by omega);omega) (by omega)) ?_
  rintro _ ⟨r,rfl,r1,r2,r3⟩
  (conv=>whnf);repeat' (first|(refine kA ?_;conv=>whnf)|(refine Br.mk (fun hc=>?_) fun hc=>?_<;>first|exact hc.elim|conv=>whnf)  |(refine kB ?_))
  exact again.mk ⟨_,by omega,i+1,r,rfl,rfl,rfl,by omega,by omega,fun h=>⟨by have:=hx (by omega);have:=r3 h;omega,CO (by omega) (hx (by omega)).2 ⟨by have:=r3 h;omega,(r3 h).2⟩⟩⟩
 ·exact⟨_,rfl,by omega,by omega,fun h=>absurd h (by omega)⟩
 ·refine⟨_,rfl,by omega,by omega,fun h=>?_⟩
  obtain⟨x1,x2⟩:=hx h
  rw[Eo hc]at x2
  exact⟨by omega,x2⟩
def SmP (ps:List GP):Prop:=ps.length≤2000∧∀p∈ps,p.key.length≤101000∧Pg 12 p.v.av
def SmN (n:GN):Prop:=n.labels.length≤2000∧(∀ s∈n.labels,s.length≤101000)∧SmP n.props
def SmE (e:GE):Prop:=e.ty.length≤101000∧SmP e.props
def SmG (g:GG) (n e:Int):Prop:=g.nodes.length≤n∧g.edges.length≤e∧(∀ n∈g.nodes,SmN n)∧∀e∈g.edges,SmE e
theorem small {g:GG} (hg:g.ok) {n e:Int}:Aw (Ad tab) 11 [g.av,.int .i64 n,.int .i64 e] (fun v=>∃b,v=.bool b∧(b=true→SmG g n e)):=by
 obtain⟨g1,g2,g3,g4,g5,g6,g7,g8⟩:=hg
 unfold Ln at g1 g4
 refine Ah rfl rfl ?_
 (conv=>whnf);repeat' (first|(refine kA ?_;conv=>whnf)|(refine Br.mk (fun hc=>?_) fun hc=>?_<;>first|exact hc.elim|conv=>whnf)  |(refine kB ?_))
 ·exact⟨_,rfl,fun h=>by cases h⟩
 ·exact⟨_,rfl,fun h=>by cases h⟩
 refine Au (fun m env s=>∃(i c:Nat) (left:Int),m=g.nodes.length-i∧env=[(3,.ref 0 0 0 0),(7,.int .i64 left),(8,.int .i64 i)]∧s=⟨[.arr 0 4 true true [g.av]],c⟩∧-9223372036854775808≤left∧left≤2000∧(0≤left→∀n∈g.nodes.take i,SmN n)) ?_ _ _ _ ⟨0,1,2000,rfl,rfl,rfl,by omega,by omega,fun _=>by simp⟩
 rintro _ _ _ ⟨i,c,left,rfl,rfl,rfl,b1,b2,hx⟩
 refine⟨rfl,?_⟩
 have hat:∀h:i<g.nodes.length,(g.nodes[i]).ok:=fun h=>g3 _ (List.getElem_mem _)
 have hk:∀h:i<g.nodes.length,(g.nodes[i]).labels.length<2^63:=fun h=>(hat h).2.1
 (conv=>whnf);repeat' (first|(refine kA ?_;conv=>whnf)|(refine Br.mk (fun hc=>?_) fun hc=>?_<;>first|exact hc.elim|conv=>whnf)|(have hwr:=hk (by omega);apply CP;(· exact wrap_i64 (by omega) (by omega));clear hwr;conv=>whnf)|(refine kB ?_))
 rotate_left
 ·have hN:0≤left→∀n∈g.nodes,SmN n:=fun h=>absurd h (by omega)
  refine Au (fun m env s=>∃(i c:Nat) (left:Int),m=g.edges.length-i∧env=[(3,.ref 0 0 0 0),(7,.int .i64 left),(11,.int .i64 i)]∧s=⟨[.arr 0 4 true true [g.av]],c⟩∧-9223372036854775808≤left∧left≤2000∧(0≤left→(∀ n∈g.nodes,SmN n)∧∀n∈g.edges.take i,SmE n)) ?_ _ _ _ ⟨0,_,left,rfl,rfl,rfl,by omega,by omega,fun h=>⟨hN h,by simp⟩⟩
  clear hN hx hat hk b1 b2 hc
  rintro _ _ _ ⟨i,c,left,rfl,rfl,rfl,b1,b2,hx⟩
  refine⟨rfl,?_⟩
  have hat:∀h:i<g.edges.length,(g.edges[i]).ok:=fun h=>g6 _ (List.getElem_mem _)
  have hk:∀h:i<g.edges.length,(g.edges[i]).ty.length<2^63:=fun h=>(hat h).2.2.2.1
  (conv=>whnf);repeat' (first|(refine kA ?_;conv=>whnf)|(refine Br.mk (fun hc=>?_) fun hc=>?_<;>first|exact hc.elim|conv=>whnf)|(refine Us (hk (by omega)) ?_;conv=>whnf)|(have hwr:=hk (by omega);apply CP;(· exact wrap_i64 (by omega) (by omega));clear hwr;conv=>whnf)|(refine kB ?_))
  ·refine Ac (weigh (hat (by omega)).2.2.2.2.1 (hat (by omega)).2.2.2.2.2.2 (by have:=hk (by omega);omega) (by omega)) ?_
   rintro _ ⟨r,rfl,r1,r2,r3⟩
   (conv=>whnf);repeat' (first|(refine kA ?_;conv=>whnf)|(refine Br.mk (fun hc=>?_) fun hc=>?_<;>first|exact hc.elim|conv=>whnf)  |(refine kB ?_))
   have hk1:=hk (by omega)
   exact again.mk ⟨_,by omega,i+1,_,r,rfl,rfl,rfl,by omega,by omega,fun h=>⟨(hx (by omega)).1,CO (by omega) (hx (by omega)).2 ⟨by have:=r3 h;omega,by have:=r3 h;omega,(r3 h).2⟩⟩⟩
  all_goals first
   |exact⟨_,rfl,fun h=>absurd h Bool.false_ne_true⟩
   |(refine ⟨_,rfl,fun h=>?_⟩
     rename_i hc1
     obtain⟨x1,x2⟩:=hx hc
     rw[Eo hc1]at x2
     exact⟨by omega,by omega,x1,x2⟩)
 ·have hN:0≤left→∀n∈g.nodes,SmN n:=by rw[Eo hc]at hx;exact hx
  refine Au (fun m env s=>∃(i c:Nat) (left:Int),m=g.edges.length-i∧env=[(3,.ref 0 0 0 0),(7,.int .i64 left),(11,.int .i64 i)]∧s=⟨[.arr 0 4 true true [g.av]],c⟩∧-9223372036854775808≤left∧left≤2000∧(0≤left→(∀ n∈g.nodes,SmN n)∧∀n∈g.edges.take i,SmE n)) ?_ _ _ _ ⟨0,_,left,rfl,rfl,rfl,by omega,by omega,fun h=>⟨hN h,by simp⟩⟩
  clear hN hx hat hk b1 b2 hc
  rintro _ _ _ ⟨i,c,left,rfl,rfl,rfl,b1,b2,hx⟩
  refine⟨rfl,?_⟩
  have hat:∀h:i<g.edges.length,(g.edges[i]).ok:=fun h=>g6 _ (List.getElem_mem _)
  have hk:∀h:i<g.edges.length,(g.edges[i]).ty.length<2^63:=fun h=>(hat h).2.2.2.1
  (conv=>whnf);repeat' (first|(refine kA ?_;conv=>whnf)|(refine Br.mk (fun hc=>?_) fun hc=>?_<;>first|exact hc.elim|conv=>whnf)|(refine Us (hk (by omega)) ?_;conv=>whnf)|(have hwr:=hk (by omega);apply CP;(· exact wrap_i64 (by omega) (by omega));clear hwr;conv=>whnf)|(refine kB ?_))
  ·refine Ac (weigh (hat (by omega)).2.2.2.2.1 (hat (by omega)).2.2.2.2.2.2 (by have:=hk (by omega);omega) (by omega)) ?_
   rintro _ ⟨r,rfl,r1,r2,r3⟩
   (conv=>whnf);repeat' (first|(refine kA ?_;conv=>whnf)|(refine Br.mk (fun hc=>?_) fun hc=>?_<;>first|exact hc.elim|conv=>whnf)  |(refine kB ?_))
   have hk1:=hk (by omega)
   exact again.mk ⟨_,by omega,i+1,_,r,rfl,rfl,rfl,by omega,by omega,fun h=>⟨(hx (by omega)).1,CO (by omega) (hx (by omega)).2 ⟨by have:=r3 h;omega,by have:=r3 h;omega,(r3 h).2⟩⟩⟩
  all_goals first
   |exact⟨_,rfl,fun h=>absurd h Bool.false_ne_true⟩
   |(refine ⟨_,rfl,fun h=>?_⟩
     rename_i hc1
     obtain⟨x1,x2⟩:=hx hc
     rw[Eo hc1]at x2
     exact⟨by omega,by omega,x1,x2⟩)
 refine Ac (weigh (hat (by omega)).2.2.2.2.1 (hat (by omega)).2.2.2.2.2.2 (by have:=hk (by omega);omega) (by omega)) ?_
 rintro _ ⟨r,rfl,r1,r2,r3⟩
 (conv=>whnf);repeat' (first|(refine kA ?_;conv=>whnf)|(refine Br.mk (fun hc=>?_) fun hc=>?_<;>first|exact hc.elim|conv=>whnf)  |(refine kB ?_))
 refine Au (fun m env s=>∃(j:Nat) (l2:Int),m=(g.nodes[i]).labels.length-j∧env=[(3,.ref 0 0 0 0),(7,.int .i64 l2),(8,.int .i64 i),(9,.ref 1 c 0 0),(10,.int .i64 j)]∧s=⟨[.arr 0 4 true true [g.av],.arr c 3 true true [(g.nodes[i]).av]],c+1⟩∧-9223372036854775808≤l2∧l2≤2000∧(0≤l2→0≤r∧∀s∈(g.nodes[i]).labels.take j,s.length≤101000)) ?_ _ _ _ ⟨0,r,rfl,rfl,rfl,by omega,by omega,fun h=>⟨h,by simp⟩⟩
 rintro _ _ _ ⟨j,l2,rfl,rfl,rfl,d1,d2,hy⟩
 refine⟨rfl,?_⟩
 have hlb:∀h:j<(g.nodes[i]).labels.length,((g.nodes[i]).labels[j]).length<2^63:=fun h=>(hat (by omega)).2.2.2.1 _ (List.getElem_mem _)
 have hk1:=hk (by omega)
 (conv=>whnf);repeat' (first|(refine kA ?_;conv=>whnf)|(refine Br.mk (fun hc=>?_) fun hc=>?_<;>first|exact hc.elim|conv=>whnf)|(refine Us (hlb (by omega)) ?_;conv=>whnf)|(have hwr:=hlb (by omega);apply CP;(· exact wrap_i64 (by omega) (by omega));clear hwr;conv=>whnf)|(refine kB ?_))
 ·have:=hlb (by omega)
  exact again.mk ⟨_,by omega,j+1,_,rfl,rfl,rfl,by omega,by omega,fun h=>⟨(hy (by omega)).1,CO (by omega) (hy (by omega)).2 (by omega)⟩⟩
 ·exact again.mk ⟨_,by omega,i+1,_,l2,rfl,rfl,rfl,by omega,by omega,fun h=>absurd h (by omega)⟩
 ·refine again.mk ⟨_,by omega,i+1,_,l2,rfl,rfl,rfl,by omega,by omega,fun h=>?_⟩
  obtain⟨y1,y2⟩:=hy h
  rw[Eo hc]at y2
  have:=r3 y1
  exact CO (by omega) (hx (by omega)) ⟨by omega,y2,by omega,this.2⟩
def EZ (c:Int):Prop:=(97≤c∧c≤122)∨(65≤c∧c≤90)
instance (c:Int):Decidable (EZ c):=by unfold EZ;infer_instance
theorem ZU {c:Int}:Aw (Ad tab) 50 [.int .u8 c] (· =.bool (decide (EZ c))):=by
 refine Ah rfl rfl ?_
 (conv=>whnf);repeat' (first|(refine kA ?_;conv=>whnf)|(refine Br.mk (fun hc=>?_) fun hc=>?_<;>first|exact hc.elim|conv=>whnf)  |(refine kB ?_))
 all_goals first|exact Fg (by unfold EZ;omega)|exact Dn (by unfold EZ;omega)
def Nw (c:Int):Prop:=EZ c∨(48≤c∧c≤57)∨c=95
instance (c:Int):Decidable (Nw c):=by unfold Nw;infer_instance
def isName (s:List UInt8):Prop:=0<s.length∧s.length≤20∧(∀ c,s[0]?=some c→EZ c.toNat)∧∀c∈s,Nw c.toNat
instance (s:List UInt8):Decidable (isName s):=by unfold isName;infer_instance
theorem Uk {s:List UInt8} (hs:0<s.length) (h:isName s):EZ s[0].toNat:=h.2.2.1 _ (List.getElem?_eq_getElem hs)
theorem Aa5 {s:List UInt8} {i:Nat} (hi:i<s.length) (h:isName s):Nw s[i].toNat:=h.2.2.2 _ (List.getElem_mem _)
theorem name1 {s:List UInt8} (hl:s.length<2^63):Aw (Ad tab) 26 [.str s] (· =.bool (decide (isName s))):=by
 by_cases h0:s.length=0
 ·obtain rfl:s=[]:=List.length_eq_zero_iff.1 h0
  refine Ah rfl rfl ?_
  (conv=>whnf);repeat' (first|(refine kA ?_;conv=>whnf)|(refine Br.mk (fun hc=>?_) fun hc=>?_<;>first|exact hc.elim|conv=>whnf)  |(refine kB ?_))
  all_goals exact Dn (by simp[isName])
 have hs:0<s.length:=by omega
 have hne:s≠[]:=by rintro rfl;simp at h0
 have hz:s[0]?=some s[0]:=List.getElem?_eq_getElem hs
 refine Ah rfl rfl ?_
 (conv=>whnf);repeat' (first|(refine kA ?_;conv=>whnf)|(refine Br.mk (fun hc=>?_) fun hc=>?_<;>first|exact hc.elim|conv=>whnf)|(refine FD (ZU) (fun hc=>?_) (fun hc=>?_)<;>conv=>whnf)|(refine kB ?_))
 all_goals first|exact absurd hc hne|exact Dn (by unfold isName;omega)|exact Dn fun h=>hc (Uk hs h)|skip
 refine Au (fun m env s'=>∃i:Nat,m=s.length-i∧env=[(0,.str s),(18,.int .i64 s.length),(19,.int .i64 i)]∧s'=⟨[],0⟩∧∀c∈s.take i,Nw c.toNat) ?_ _ _ _ ⟨0,rfl,by simp,rfl,by simp⟩
 rintro _ _ _ ⟨i,rfl,rfl,rfl,hx⟩
 refine⟨rfl,?_⟩
 (conv=>whnf);repeat' (first|(refine kA ?_;conv=>whnf)|(refine Br.mk (fun hc=>?_) fun hc=>?_<;>first|exact hc.elim|conv=>whnf)|(refine FD (ZU) (fun hc=>?_) (fun hc=>?_)<;>conv=>whnf)|(refine kB ?_))
 all_goals first
  |exact again.mk ⟨_,by omega,i+1,rfl,rfl,rfl,CO (by omega) hx (by unfold Nw EZ at *;omega)⟩
  |(refine Dn fun h=>?_;have:=Aa5 (i:=i) (by omega) h;unfold Nw EZ at *;omega)
  |(rename_i hc1;exact Fg ⟨hs,by omega,fun c h=>by rw[hz]at h;cases h;assumption,by rw[Eo hc]at hx;exact hx⟩)
theorem PX {AP:Nat→Option Hf} {f:Nat} {sp:List AV→Ag→Option (AL×Ag)} {args:List AV} {R:AV→Prop} {v v':AV} {s:Ag} (hf:AP f=some (.ext sp)) (h:sp args ⟨[],0⟩=some (.ok v,s)) (hs:snap s.σ Dc v=some v') (hR:R v'):Aw AP f args R:=
 ⟨v',⟨1,by simp only[Ce,run,hf,h];exact hs⟩,hR⟩
theorem ixP {l:List UInt8}:Aw (Ad tab) 83 [.str l,.fn 84 []] (· =.int .i64 (Jq l)):=
 PX rfl rfl rfl rfl
theorem OY {l:List UInt8}:Jq l<0↔∀c∈l,Sz c=false:=by
 unfold Jq
 cases h:List.findIdx? Sz l with
 |none=>
  refine⟨fun _ c hc=>?_,fun _=>by decide⟩
  have:=List.findIdx?_eq_none_iff.1 h c hc
  simpa using this
 |some i=>
  refine⟨fun h=>?_,fun ha=>?_⟩
  ·simp at h;omega
  ·obtain⟨h1,h2,_⟩:=List.findIdx?_eq_some_iff_getElem.1 h
   rw[ha _ (List.getElem_mem h1)]at h2
   cases h2
def O6 (n:Int):Prop:=-1000000000000000≤n∧n≤1000000000000000
instance (n:Int):Decidable (O6 n):=by unfold O6;infer_instance
theorem inP {n:Int}:Aw (Ad tab) 31 [.int .i64 n] (· =.bool (decide (O6 n))):=by
 refine Ah rfl rfl ?_
 (conv=>whnf);repeat' (first|(refine kA ?_;conv=>whnf)|(refine Br.mk (fun hc=>?_) fun hc=>?_<;>first|exact hc.elim|conv=>whnf)  |(refine kB ?_))
 all_goals first|exact Fg (by unfold O6;omega)|exact Dn (by unfold O6;omega)
def okS (s:List UInt8):Prop:=s.length≤100∧∀c∈s,Sz c=false
instance (s:List UInt8):Decidable (okS s):=by unfold okS;infer_instance
def He (v:GV):Prop:=v.d=0∧v.l.length=0∧(v.k=1∧v.s=[]∧(v.n=0∨v.n=1)∨v.k=2∧v.s=[]∧O6 v.n∨v.k=4∧v.n=0∧okS v.s)
instance (v:GV):Decidable (He v):=by unfold He;infer_instance
def OZ (v:GV):Prop:=v.k=1∨v.k=2∨v.k=4
instance (v:GV):Decidable (OZ v):=by unfold OZ;infer_instance
theorem Abs {v:GV} (h:He v):OZ v:=by unfold He at h;unfold OZ;omega
theorem vld {v:GV} (hv:v.ok) (hk:OZ v) {n:Int}:Aw (Ad tab) 77 [v.av,.int .i64 n] (· =.bool (decide (He v))):=by
 obtain⟨g1,g2,g3,g4,g5,g6,g7⟩:=hv
 unfold Ln at g4 g5
 unfold OZ at hk
 refine Ah rfl rfl ?_
 (conv=>whnf);repeat' (first|(refine kA ?_;conv=>whnf)|(refine Br.mk (fun hc=>?_) fun hc=>?_<;>first|exact hc.elim|conv=>whnf)|(refine FD (inP (n:=v.n)) (fun hr=>?_) (fun hr=>?_)<;>conv=>whnf)|(refine Ac (ixP (l:=v.s)) ?_;rintro _ rfl;conv=>whnf)|(refine kB ?_))
 all_goals first
  |exact Dn (fun h=>by have:=h.2.1;omega)
  |(refine Fg ?_;clear g7 g6;unfold He okS;rw[← OY];first|(simp_all;done)|(simp_all;omega))
  |(refine Dn ?_;clear g7 g6;unfold He okS;rw[← OY];first|(simp_all;done)|(simp_all;omega))
theorem Als {v:GV} (hv:v.ok) (hk:OZ v):Aw (Ad tab) 64 [v.av] (· =.bool (decide (He v))):=by
 refine Ah rfl rfl ?_
 (conv=>whnf);repeat' (first|(refine kA ?_;conv=>whnf)|(refine Br.mk (fun hc=>?_) fun hc=>?_<;>first|exact hc.elim|conv=>whnf)|(refine FD (vld (v:=v) hv hk) (fun hr=>?_) (fun hr=>?_)<;>conv=>whnf)|(refine kB ?_))
 all_goals first|exact Fg (by assumption)|exact Dn (by assumption)
theorem Ag9 {v:GV} (hv:v.ok):Aw (Ad tab) 46 [v.av] (· =.bool (decide (He v))):=by
 refine Ah rfl rfl ?_
 (conv=>whnf);repeat' (first|(refine kA ?_;conv=>whnf)|(refine Br.mk (fun hc=>?_) fun hc=>?_<;>first|exact hc.elim|conv=>whnf)|(refine FD (Als (v:=v) hv (by unfold OZ;omega)) (fun hr=>?_) (fun hr=>?_)<;>conv=>whnf)|(refine kB ?_))
 all_goals first|exact Fg (by assumption)|exact Dn (by assumption)|exact Dn fun h=>absurd (Abs h) (by unfold OZ;omega)
def allNames (l:List (List UInt8)):Prop:=∀s∈l,isName s
noncomputable instance (l:List (List UInt8)):Decidable (allNames l):=Classical.propDecidable _
def rises (l:List (List UInt8)):Prop:=∀j (h:j+1<l.length),(Op.bytesLess l[j+1] l[j]||l[j+1]==l[j])=false
noncomputable instance (l:List (List UInt8)):Decidable (rises l):=Classical.propDecidable _
theorem unn {s:List UInt8} (hl:s.length<2^63):Aw (Ad tab) 44 [.str s] (· =.bool (decide (¬ isName s))):=by
 refine Ah rfl rfl ?_
 (conv=>whnf);repeat' (first|(refine kA ?_;conv=>whnf)|(refine Br.mk (fun hc=>?_) fun hc=>?_<;>first|exact hc.elim|conv=>whnf)|(refine FD (name1 hl) (fun hr=>?_) (fun hr=>?_)<;>conv=>whnf)|(refine kB ?_))
 ·exact Dn (fun h=>h hr)
 ·exact Fg hr
theorem Ai6 {l:List (List UInt8)} {nn:Bool} (hl:l.length<2^63) (hs:∀s∈l,s.length<2^63):Aw (Ad tab) 63 [.sl nn (vs .str l),.fn 44 []] (fun v=>∃z,v=.int .i64 z∧(0≤z↔¬allNames l)):=by
 refine Ah rfl rfl ?_
 (conv=>whnf);repeat' (first|(refine kA ?_;conv=>whnf)|(refine Br.mk (fun hc=>?_) fun hc=>?_<;>first|exact hc.elim|conv=>whnf)  |(refine kB ?_))
 refine Au (fun m env s=>∃i:Nat,m=l.length-i∧env=[(0,.sl nn (vs .str l)),(1,.fn 44 []),(7,.int .i64 l.length),(8,.int .i64 i)]∧s=⟨[],0⟩∧∀s∈l.take i,isName s) ?_ _ _ _ ⟨0,rfl,by simp,rfl,by simp⟩
 rintro _ _ _ ⟨i,rfl,rfl,rfl,hx⟩
 refine⟨rfl,?_⟩
 (conv=>whnf);repeat' (first|(refine kA ?_;conv=>whnf)|(refine Br.mk (fun hc=>?_) fun hc=>?_<;>first|exact hc.elim|conv=>whnf)|(refine FD (unn (hs _ (List.getElem_mem (by omega)))) (fun hr=>?_) (fun hr=>?_)<;>conv=>whnf)|(refine kB ?_))
 ·exact⟨_,rfl,fun _ h=>hr (h _ (List.getElem_mem _)),fun _=>by omega⟩
 ·exact again.mk ⟨_,by omega,i+1,rfl,rfl,rfl,CO (by omega) hx (Decidable.of_not_not hr)⟩
 ·rw[Eo hc]at hx;exact⟨_,rfl,fun h=>absurd h (by omega),fun h=>absurd hx h⟩
theorem Adv {l:List (List UInt8)} {nn:Bool} (hl:l.length<2^63) (hs:∀s∈l,s.length<2^63):Aw (Ad tab) 43 [.sl nn (vs .str l),.fn 44 []] (· =.bool (decide (¬ allNames l))):=by
 refine Ah rfl rfl ?_
 (conv=>whnf);repeat' (first|(refine kA ?_;conv=>whnf)|(refine Br.mk (fun hc=>?_) fun hc=>?_<;>first|exact hc.elim|conv=>whnf)  |(refine kB ?_))
 refine Ac (Ai6 hl hs) ?_
 rintro _ ⟨z,rfl,hz⟩
 (conv=>whnf);repeat' (first|(refine kA ?_;conv=>whnf)|(refine Br.mk (fun hc=>?_) fun hc=>?_<;>first|exact hc.elim|conv=>whnf)  |(refine kB ?_))
 ·exact Fg (hz.1 hc)
 ·exact Dn (mt hz.2 hc)
theorem Adw {l:List (List UInt8)} {nn:Bool} (hl:l.length<2^63):Aw (Ad tab) 45 [.sl nn (vs .str l)] (· =.bool (decide (rises l))):=by
 refine Ah rfl rfl ?_
 (conv=>whnf);repeat' (first|(refine kA ?_;conv=>whnf)|(refine Br.mk (fun hc=>?_) fun hc=>?_<;>first|exact hc.elim|conv=>whnf)  |(refine kB ?_))
 refine Au (fun m env s=>∃i:Nat,m=l.length-i∧env=[(0,.sl nn (vs .str l)),(3,.int .i64 (i+1:Nat))]∧s=⟨[],0⟩∧∀j (h:j+1<l.length),j<i→(Op.bytesLess l[j+1] l[j]||l[j+1]==l[j])=false) ?_ _ _ _ ⟨0,rfl,rfl,rfl,fun j _ h=>absurd h (by omega)⟩
 rintro _ _ _ ⟨i,rfl,rfl,rfl,hx⟩
 refine⟨rfl,?_⟩
 (conv=>whnf);repeat' (first|(refine kA ?_;conv=>whnf)|(refine Br.mk (fun hc=>?_) fun hc=>?_<;>first|exact hc.elim|conv=>whnf)|(apply AA;(· exact nVz i (by omega) (by omega));conv=>whnf)|(refine kB ?_))
 ·exact Dn fun h=>by simp only[show (((i+1:Nat):Int)-1).toNat=i by omega]at hc;rw[h i (by omega)]at hc;cases hc
 ·simp only[show (((i+1:Nat):Int)-1).toNat=i by omega]at hc
  exact again.mk ⟨_,by omega,i+1,rfl,rfl,rfl,fun j h hj=>by
   by_cases e:j=i
   ·subst e;simpa using hc
   ·exact hx j h (by omega)⟩
 ·exact Fg fun j h=>hx j h (by omega)
end AI
end Go.Proofs.YtiimoiecghmebaaDoor
