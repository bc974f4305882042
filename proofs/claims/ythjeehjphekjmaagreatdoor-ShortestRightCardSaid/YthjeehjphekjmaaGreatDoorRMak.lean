/- Walks of the finder: the values of walks, copies, lookups among ints; the walks to a node, plain. The walks of the program and of the reference. Sorting pairs in place: the order by the first. Distances of all nodes: the reference's. -/
import Derived.Test.YthjeehjphekjmaaGreatDoorRMag
import Derived.Test.YthjeehjphekjmaaGreatDoorRMaj
import Derived.Test.YthjeehjphekjmaaGreatDoorRMae
import Derived.Test.YthjeehjphekjmaaGreatDoorRMab
set_option linter.unusedVariables false
set_option maxRecDepth 4000
namespace Go.Proofs.YthjeehjphekjmaaGreatDoor
namespace AI
section
variable (st:Int→List (Int×Int))
def Wt:Nat→Int→Int→List Int→Prop
 |0,a,b,t=>a=b∧t=[]
 |k+1,a,b,t=>∃e n r,(e,n)∈st a∧t=e::n::r∧Wt k n b r
end
theorem Wt.len {st:Int→List (Int×Int)}:∀{k:Nat} {a b:Int} {t:List Int},Wt st k a b t→t.length=2*k
 |0,a,b,t,h=>by rw[h.2];rfl
 |k+1,a,b,t,⟨e,n,r,_,h1,h2⟩=>by rw[h1,List.length_cons,List.length_cons,h2.len];omega
def stT (types:List (List UInt8)) (dir:Int) (E:List GE) (a:Int):List (Int×Int):=(outs types a dir E).map fun s=>(s.ed,s.to)
theorem stT_nb {types:List (List UInt8)} {dir:Int} {E:List GE} {a e n:Int} (h:(e,n)∈stT types dir E a):n∈CY types dir E a:=by
 obtain⟨s,hs,h⟩:=List.mem_map.1 h
 exact List.mem_map.2 ⟨s,hs,congrArg Prod.snd h⟩
theorem nb_stT {types:List (List UInt8)} {dir:Int} {E:List GE} {a n:Int} (h:n∈CY types dir E a):∃e,(e,n)∈stT types dir E a:=by
 obtain⟨s,hs,rfl⟩:=List.mem_map.1 h
 exact⟨s.ed,List.mem_map.2 ⟨s,hs,rfl⟩⟩
theorem W_of_Wt {types:List (List UInt8)} {dir:Int} {E:List GE}:∀{k:Nat} {a b:Int} {t:List Int},Wt (stT types dir E) k a b t→W (CY types dir E) a k b
 |0,a,b,t,h=>(EU _).2 h.1.symm
 |k+1,a,b,t,⟨e,n,r,h0,_,h2⟩=>SV.2 ⟨n,stT_nb h0,W_of_Wt h2⟩
theorem Wt_of_W {types:List (List UInt8)} {dir:Int} {E:List GE}:∀{k:Nat} {a b:Int},W (CY types dir E) a k b→∃t,Wt (stT types dir E) k a b t
 |0,a,b,h=>⟨[],((EU _).1 h).symm,rfl⟩
 |k+1,a,b,h=>by
  obtain⟨n,h0,h1⟩:=SV.1 h
  obtain⟨e,he⟩:=nb_stT h0
  obtain⟨r,hr⟩:=Wt_of_W h1
  exact⟨e::n::r,e,n,r,he,rfl,hr⟩
def revD (d:Int):Int:=if d=1 then 2 else if d=2 then 1 else d
theorem nbT_rev {types:List (List UInt8)} {dir:Int} {E:List GE} (a x:Int):x∈CY types dir E a↔a∈CY types (revD dir) E x:=by
 rw[IJ,IJ]
 constructor
 ·rintro⟨e,he,ht,h⟩
  refine⟨e,he,ht,?_⟩
  unfold revD
  split
  ·omega
  ·split<;>omega
 ·rintro⟨e,he,ht,h⟩
  refine⟨e,he,ht,?_⟩
  unfold revD at h
  split at h
  ·omega
  ·split at h<;>omega
theorem stT_id {types:List (List UInt8)} {dir:Int} {E:List GE} {a:Int} (hE:∀e∈E,I64 e.id∧I64 e.fr∧I64 e.to) {p:Int×Int} (h:p∈stT types dir E a):I64 p.1∧I64 p.2:=by
 obtain⟨s,hs,rfl⟩:=List.mem_map.1 h
 obtain⟨e,he,ho⟩:=List.mem_filterMap.1 hs
 obtain⟨h1,h2,h3⟩:=hE e he
 unfold outOf at ho
 split at ho
 ·unfold stepOf at ho
  split at ho
  ·cases ho;exact⟨h1,h3⟩
  ·split at ho
   ·cases ho;exact⟨h1,h2⟩
   ·cases ho
 ·cases ho
theorem Wt.ids {types:List (List UInt8)} {dir:Int} {E:List GE} (hE:∀e∈E,I64 e.id∧I64 e.fr∧I64 e.to):∀{k:Nat} {a b:Int} {t:List Int},Wt (stT types dir E) k a b t→∀x∈t,I64 x
 |0,a,b,t,h,x,hx=>by rw[h.2]at hx;cases hx
 |k+1,a,b,t,⟨e,n,r,h0,h1,h2⟩,x,hx=>by
  have hi:=stT_id hE h0
  rw[h1]at hx
  rcases List.mem_cons.1 hx with rfl|hx
  ·exact hi.1
  ·rcases List.mem_cons.1 hx with rfl|hx
   ·exact hi.2
   ·exact h2.ids hE x hx
def wgv (k:Int):List Int→List GV
 |[]=>[]
 |n::l=>gvK k n::wgv (11-k) l
theorem wav_vs:∀{l:List Int} {k:Int},wav k l=vs GV.av (wgv k l)
 |[],_=>rfl
 |n::l,k=>by
  show(gvK k n).av::wav (11-k) l=(gvK k n).av::vs GV.av (wgv (11-k) l)
  rw[wav_vs]
theorem wgv_len:∀{l:List Int} {k:Int},(wgv k l).length=l.length
 |[],_=>rfl
 |n::l,k=>by simp[wgv,wgv_len]
theorem wgv_app2:∀(m:Nat) {l:List Int} {a b:Int},l.length=2*m+1→wgv 5 (l++[a,b])=wgv 5 l++[gvK 6 a,gvK 5 b]
 |0,[x],a,b,_=>rfl
 |m+1,x::y::l,a,b,h=>by
  have e1:(11:Int)-5=6:=by omega
  have e2:(11:Int)-(11-5)=5:=by omega
  simp only[List.cons_append,wgv,e2]
  rw[wgv_app2 m (by simp at h;omega)]
theorem wgv_leaf:∀{l:List Int} {k:Int} {g:GV},g∈wgv k l→g.nn=false∧g.l=[]
 |n::l,k,g,h=>by
  rcases List.mem_cons.1 h with rfl|h
  ·exact⟨rfl,rfl⟩
  ·exact wgv_leaf h
theorem wgv_at:∀{l:List Int} {k:Int} {i:Nat} (h:i<l.length),(wgv k l)[i]'(by rw[wgv_len];exact h)=gvK (if i % 2=0 then k else 11-k) l[i]
 |n::l,k,0,h=>rfl
 |n::l,k,i+1,h=>by
  have h2:=wgv_at (l:=l) (k:=11-k) (i:=i) (by simpa using h)
  simp only[wgv,List.getElem_cons_succ,h2]
  congr 1
  split<;>split<;>omega
theorem valNode {n:Int}:Au (Ac tab) 44 [.int .i64 n] (· =(gvK 5 n).av):=by
 refine Af rfl rfl ?_
 (conv=>whnf);repeat' (first  |(refine kA ?_;conv=>whnf)|(refine Br.mk (fun hc=>?_) fun hc=>?_<;>first|exact hc.elim|conv=>whnf)|(refine kB ?_))
 all_goals first|rfl
theorem valEdge {n:Int}:Au (Ac tab) 75 [.int .i64 n] (· =(gvK 6 n).av):=by
 refine Af rfl rfl ?_
 (conv=>whnf);repeat' (first  |(refine kA ?_;conv=>whnf)|(refine Br.mk (fun hc=>?_) fun hc=>?_<;>first|exact hc.elim|conv=>whnf)|(refine kB ?_))
 all_goals first|rfl
theorem copiedNil:Au (Ac tab) 111 [.sl false []] (· =.sl false []):=by
 refine Af rfl rfl ?_
 (conv=>whnf);repeat' (first  |(refine kA ?_;conv=>whnf)|(refine Br.mk (fun hc=>?_) fun hc=>?_<;>first|exact hc.elim|conv=>whnf)|(refine kB ?_))
 refine Ui rfl ZO ?_
 (conv=>whnf);repeat' (first  |(refine kA ?_;conv=>whnf)|(refine Br.mk (fun hc=>?_) fun hc=>?_<;>first|exact hc.elim|conv=>whnf)|(refine kB ?_))
 refine Iz ?_ rfl
 (conv=>whnf);repeat' (first  |(refine kA ?_;conv=>whnf)|(refine Br.mk (fun hc=>?_) fun hc=>?_<;>first|exact hc.elim|conv=>whnf)|(refine kB ?_))
 rfl
theorem gv_leaf {g:GV} (h:g.nn=false∧g.l=[]):g.av=.agg [.int .i64 g.k,.int .i64 g.n,.int .i64 g.d,.str g.s,.sl false []]:=by
 obtain⟨k,n,d,s,nn,l⟩:=g
 obtain⟨rfl,rfl⟩:=h
 rfl
theorem copiedP {l:List GV} (hl:l.length≤100000) (h:∀g∈l,g.nn=false∧g.l=[]):Au (Ac tab) 111 [.sl true (vs GV.av l)] (· =.sl true (vs GV.av l)):=by
 refine Af rfl rfl ?_
 (conv=>whnf);repeat' (first  |(refine kA ?_;conv=>whnf)|(refine Br.mk (fun hc=>?_) fun hc=>?_<;>first|exact hc.elim|conv=>whnf)|(refine kB ?_))
 refine Aep rfl (Abk (Hq (f:=GV.av) (fun _=>rfl) l) (by rw[lV];omega)) ?_
 (conv=>whnf);repeat' (first  |(refine kA ?_;conv=>whnf)|(refine Br.mk (fun hc=>?_) fun hc=>?_<;>first|exact hc.elim|conv=>whnf)|(refine kB ?_))
 refine Ae (fun m env st=>∃(i c:Nat),m=l.length-i∧env=[(3,.own 0 0 0 (vs GV.av l).length),(8,.int .i64 (vs GV.av l).length),(9,.int .i64 i)]∧st=⟨[.arr 0 5 true true (vs GV.av l)],c⟩) ?_ _ _ _ ⟨0,_,rfl,rfl,rfl⟩
 rintro _ _ _ ⟨i,c,rfl,rfl,rfl⟩
 refine⟨rfl,?_⟩
 have hv:(vs GV.av l).length=l.length:=lV _
 by_cases hlt:i<l.length
 ·have e:=gv_leaf (h _ (List.getElem_mem hlt))
  have hn:nth (vs GV.av l) (Int.toNat (Nat.cast i))=some (.agg [.int .i64 (l[i]).k,.int .i64 (l[i]).n,.int .i64 (l[i]).d,.str (l[i]).s,.sl false []]):=by rw[← e];exact nVN hlt
  (conv=>whnf);repeat' (first|(apply AU;(· exact hn);conv=>whnf)|(refine Aa copiedNil ?_;rintro _ rfl;conv=>whnf)|(apply Bh;(· exact Rx hn);conv=>whnf)|(refine kA ?_;conv=>whnf)|(refine Br.mk (fun hc=>?_) fun hc=>?_<;>first|exact hc.elim|conv=>whnf)|(refine kB ?_))
  all_goals first
   |(exfalso;omega)
   |exact again.mk ⟨_,by omega,i+1,_,rfl,rfl,rfl⟩
 ·(conv=>whnf);repeat' (first  |(refine kA ?_;conv=>whnf)|(refine Br.mk (fun hc=>?_) fun hc=>?_<;>first|exact hc.elim|conv=>whnf)|(refine kB ?_))
  all_goals first
   |(exfalso;omega)
   |exact congrArg (AV.sl true) (Xi _)
theorem valPath {l:List Int} (hl:l.length≤100000):Au (Ac tab) 72 [.sl true (vs GV.av (wgv 5 l))] (· =(gvP l).av):=by
 have p:=copiedP (l:=wgv 5 l) (by rw[wgv_len];exact hl) fun g hg=>wgv_leaf hg
 have e:(gvP l).av=.agg [.int .i64 7,.int .i64 0,.int .i64 0,.str [],.sl true (vs GV.av (wgv 5 l))]:=by
  show AV.agg [.int .i64 7,.int .i64 0,.int .i64 0,.str [],.sl true (wav 5 l)]=_
  rw[wav_vs]
 rw[e]
 refine Af rfl rfl ?_
 (conv=>whnf);repeat' (first|(refine Aa p ?_;rintro _ rfl;conv=>whnf)|(refine kA ?_;conv=>whnf)|(refine Br.mk (fun hc=>?_) fun hc=>?_<;>first|exact hc.elim|conv=>whnf)|(refine kB ?_))
 all_goals first|rfl
theorem nanZ {x:Int}:Au (Ac tab) 113 [.int .i64 x] (· =.bool false):=by
 refine Af rfl rfl ?_
 (conv=>whnf);repeat' (first  |(refine kA ?_;conv=>whnf)|(refine Br.mk (fun hc=>?_) fun hc=>?_<;>first|exact hc.elim|conv=>whnf)|(refine kB ?_))
 all_goals first|rfl|(exfalso;simp_all)
theorem bsZ {l:List Int} {nn:Bool} {x:Int} (hl:l.length<2^62) (hi:Inc l):Au (Ac tab) 73 [.sl nn (vi l),.int .i64 x] (fun v=>∃i:Int,v=.CO [.int .i64 i,.bool (decide (x∈l))]):=by
 have hg:∀{a b:Nat} (ha:a<l.length) (hb:b<l.length),a<b→l[a]<l[b]:=fun{a b} ha hb hab=>List.pairwise_iff_getElem.1 hi a b ha hb hab
 refine Af rfl rfl ?_
 (conv=>whnf);repeat' (first  |(refine kA ?_;conv=>whnf)|(refine Br.mk (fun hc=>?_) fun hc=>?_<;>first|exact hc.elim|conv=>whnf)|(refine kB ?_))
 all_goals first|(exfalso;omega)|skip
 refine Ae (fun m env s=>∃(i j:Nat),m=j-i∧i≤j∧j≤l.length∧env=[(0,.sl nn (vi l)),(1,.int .i64 x),(6,.int .i64 l.length),(7,.int .i64 i),(8,.int .i64 j)]∧s=⟨[],0⟩∧
  (∀ k (h:k<l.length),k<i→l[k]<x)∧(∀ k (h:k<l.length),j≤k→¬l[k]<x)) ?_ _ _ _ ⟨0,l.length,rfl,by omega,by omega,rfl,rfl,fun k _ h=>absurd h (by omega),fun k h1 h=>absurd h (by omega)⟩
 rintro _ _ _ ⟨i,j,rfl,hij,hj,rfl,rfl,h1,h2⟩
 refine⟨rfl,?_⟩
 by_cases hlt:i<j
 ·have hq:(i+j) / 2<l.length:=by omega
  have hp:=@Io l[(i+j) / 2] x
  by_cases hb:l[(i+j) / 2]<x
  ·rw[show Ci l[(i+j) / 2] x=true from LC.2 hb]at hp
   (conv=>whnf);repeat' (first|(refine WR (i+j) (by omega) (by omega) ?_;conv=>whnf)|(apply Bh;(· exact AaB _);conv=>whnf)|(refine Aa hp ?_;rintro _ rfl;conv=>whnf)|(refine kA ?_;conv=>whnf)|(refine Br.mk (fun hc=>?_) fun hc=>?_<;>first|exact hc.elim|conv=>whnf)|(refine kB ?_))
   all_goals first
        |(exfalso;omega)
        |exact again.mk ⟨_,by omega,(i+j) / 2+1,j,rfl,by omega,hj,rfl,rfl,fun k hk hlt=>by
          rcases Nat.lt_or_ge k ((i+j) / 2)with q|q
          ·have:=hg hk hq q;omega
          ·obtain rfl:k=(i+j) / 2:=by omega
           exact hb,h2⟩
  ·rw[show Ci l[(i+j) / 2] x=false from Np.2 hb]at hp
   (conv=>whnf);repeat' (first|(refine WR (i+j) (by omega) (by omega) ?_;conv=>whnf)|(apply Bh;(· exact AaB _);conv=>whnf)|(refine Aa hp ?_;rintro _ rfl;conv=>whnf)|(refine kA ?_;conv=>whnf)|(refine Br.mk (fun hc=>?_) fun hc=>?_<;>first|exact hc.elim|conv=>whnf)|(refine kB ?_))
   all_goals first
        |(exfalso;omega)
        |exact again.mk ⟨_,by omega,i,(i+j) / 2,rfl,by omega,by omega,rfl,rfl,h1,fun k hk hle=>by
          rcases Nat.lt_or_ge ((i+j) / 2) k with q|q
          ·have:=hg hq hk q;omega
          ·obtain rfl:k=(i+j) / 2:=by omega
           exact hb⟩
 ·obtain rfl:i=j:=by omega
  have hmem:x∈l↔∃h:i<l.length,l[i]=x:=by
   constructor
   ·intro hx
    obtain⟨k,hk,e⟩:=List.getElem_of_mem hx
    have a1:¬k<i:=fun h=>by have:=h1 k hk h;omega
    rcases Nat.lt_or_ge i k with q|q
    ·have b1:=h2 i (by omega) (Nat.le_refl _)
     have b2:=hg (a:=i) (by omega) hk q
     omega
    ·obtain rfl:k=i:=by omega
     exact⟨hk,e⟩
   ·rintro⟨h,rfl⟩
    exact List.getElem_mem h
  by_cases hil:i<l.length
  ·by_cases he:l[i]=x
   ·rw[decide_eq_true (hmem.2 ⟨hil,he⟩)]
    (conv=>whnf);repeat' (first|(refine Aa nanZ ?_;rintro _ rfl;conv=>whnf)|(refine kA ?_;conv=>whnf)|(refine Br.mk (fun hc=>?_) fun hc=>?_<;>first|exact hc.elim|conv=>whnf)|(refine kB ?_))
    all_goals first
     |exact⟨_,rfl⟩
     |(exfalso;omega)
     |exact absurd he (by assumption)
   ·rw[decide_eq_false (fun h=>by obtain⟨_,e⟩:=hmem.1 h;exact he e)]
    (conv=>whnf);repeat' (first|(refine Aa nanZ ?_;rintro _ rfl;conv=>whnf)|(refine kA ?_;conv=>whnf)|(refine Br.mk (fun hc=>?_) fun hc=>?_<;>first|exact hc.elim|conv=>whnf)|(refine kB ?_))
    all_goals first
     |exact⟨_,rfl⟩
     |(exfalso;omega)
     |exact absurd (by assumption) he
  ·rw[decide_eq_false (fun h=>by obtain⟨h,_⟩:=hmem.1 h;exact hil h)]
   (conv=>whnf);repeat' (first|(refine Aa nanZ ?_;rintro _ rfl;conv=>whnf)|(refine kA ?_;conv=>whnf)|(refine Br.mk (fun hc=>?_) fun hc=>?_<;>first|exact hc.elim|conv=>whnf)|(refine kB ?_))
   all_goals first
        |exact⟨_,rfl⟩
        |(exfalso;omega)
theorem apVm {α:Type} {f:α→AV} {es g len:Nat} {nn cl:Bool} {l l':List α} {ys:List AV} {bytes:Nat} {K:Nat→Bool→Bool→List AV→Prop} (he:ys=vs f l') (hf:∀x,(f x).cells.length=es) (hl:len=l.length) (hr:(l.length+l'.length)*bytes≤2 ^ 46) (h:∀b,K (l.length+l'.length) b cl (vs f (l++l'))):
 LW g g es es len nn cl true (vs f l) ys bytes K:=by
 subst hl he
 refine⟨⟨rfl,rfl,by simp,Hq hf l',by rw[lV];exact LX hr⟩,?_⟩
 rw[lV,Bool.and_true,List.take_of_length_le (by simp)]
 have:=h (nn||!(vs f l').isEmpty)
 simpa[vs]using this
def pav (l:List Int):AV:=(gvP l).av
theorem cellsPav (x:List Int):(pav x).cells.length=5:=rfl
theorem pow_le {k m:Nat} (h:k≤m):8 ^ k≤8 ^ m:=Nat.pow_le_pow_right (by omega) h
def Along (st:Int→List (Int×Int)) (k:Nat) (b:Int) (w:List Int) (P:List (Int×Int)) (x:List Int):Prop:=∃p∈P,∃t,x=(w++[p.1,p.2])++t∧Wt st k p.2 b t
theorem along_nil {st:Int→List (Int×Int)} {k:Nat} {b:Int} {w x:List Int}:¬Along st k b w [] x:=fun⟨_,h,_⟩=>by cases h
theorem along_snoc {st:Int→List (Int×Int)} {k:Nat} {b:Int} {w x:List Int} {P:List (Int×Int)} {p:Int×Int}:Along st k b w (P++[p]) x↔Along st k b w P x∨∃t,x=(w++[p.1,p.2])++t∧Wt st k p.2 b t:=by
 constructor
 ·rintro⟨q,hq,h⟩
  rcases List.mem_append.1 hq with hq|hq
  ·exact .inl ⟨q,hq,h⟩
  ·simp at hq;subst hq;exact .inr h
 ·rintro(⟨q,hq,h⟩|h)
  ·exact⟨q,List.mem_append_left _ hq,h⟩
  ·exact⟨p,by simp,h⟩
theorem along_all {st:Int→List (Int×Int)} {k:Nat} {a b:Int} {w x:List Int} {P:List (Int×Int)} (hP:∀p,p∈P↔p∈st a):Along st k b w P x↔∃t,x=w++t∧Wt st (k+1) a b t:=by
 constructor
 ·rintro⟨⟨e,n⟩,hp,t,rfl,h⟩
  exact⟨e::n::t,by simp,e,n,t,(hP _).1 hp,rfl,h⟩
 ·rintro⟨_,rfl,e,n,t,hp,rfl,h⟩
  exact⟨(e,n),(hP _).2 hp,t,by simp,h⟩
def sto (s:Bc):Int×Int:=(s.ed,s.to)
theorem sto_mem {types:List (List UInt8)} {dir a:Int} {E:List GE} {W:List Bc} (h:W.Perm (outs types a dir E)) (p:Int×Int):p∈W.map sto↔p∈stT types dir E a:=(h.map sto).mem_iff
def OwnR (es:Nat) (R:List AV→Prop) (out:AX) (s':Ag):Prop:=∃o g nn elems,out=.ok (.own o g 0 elems.length)∧nth s'.σ o=some (.arr g es nn true elems)∧R elems
theorem pureP_own {AP:Nat→Option Gv} {f es:Nat} {args:List AV} {R:List AV→Prop} (h:AQ AP f args ⟨[],0⟩ (OwnR es R)):Au AP f args (fun v=>∃nn l,v=.sl nn l∧R l):=by
 obtain⟨N,out,s',h1,o,g,nn,l,rfl,h2,h3⟩:=h
 refine⟨.sl nn l,⟨N,?_⟩,nn,l,rfl,h3⟩
 simp only[Dv,h1]
 show snap s'.σ (999999+1) _=_
 rw[snap]
 simp only[h2]
 simp[sub]
theorem ownR_det {AP:Nat→Option Gv} {f es:Nat} {args:List AV} {R:List AV→Prop} (h:AQ AP f args ⟨[],0⟩ (OwnR es R)):∃l,R l∧AQ AP f args ⟨[],0⟩ fun out s'=>∃o g nn,out=.ok (.own o g 0 l.length)∧nth s'.σ o=some (.arr g es nn true l):=by
 obtain⟨N,out,s',h1,o,g,nn,l,rfl,h2,h3⟩:=h
 exact⟨l,h3,N,_,s',h1,o,g,nn,rfl,h2⟩
theorem ownKh {AP:Nat→Option Gv} {f es:Nat} {args elems:List AV} {s:Ag} {K:AV→Ag→Prop} (hcl:Ez args=true) (h:AQ AP f args ⟨[],0⟩ fun out s'=>∃o g nn,out=.ok (.own o g 0 elems.length)∧nth s'.σ o=some (.arr g es nn true elems))
 (hk:∀nn,K (.own s.σ.length s.ctr 0 elems.length) (push s (.arr s.ctr es nn true elems))):∃N r s',A8 (run AP N) .own f args s=some (.ok r,s')∧K r s':=by
 obtain⟨N,out,s1,h1,o,g,nn,rfl,h2⟩:=h
 exact⟨N,_,_,by simp[A8,hcl,h1,h2],hk nn⟩
def WalkR (st:Int→List (Int×Int)) (k:Nat) (w:List Int) (a b:Int) (l:List AV):Prop:=∃L,l=vs pav L∧L.length≤8 ^ k∧∀x,x∈L↔∃t,x=w++t∧Wt st k a b t
set_option maxHeartbeats 4000000 in
theorem walksC {g:GG} (hg:g.ok) (hE:g.edges.length≤8) {types:List (List UInt8)} {tn:Bool} (ht:types.length<2^63) {dir b:Int}:∀(k:Nat) {m:Nat} {w:List Int} {a:Int} {na:Bool} {A:List (Bool×List Int)},m+k≤6→(hw:w.length=2*m+1)→Ij (CY types (revD dir) g.edges) b (k+1) A→a∈Ea (CY types (revD dir) g.edges) b k→
 AQ (Ac tab) 43 [Xp g tn types dir,.sl true (vs GV.av (wgv 5 w)),.int .i64 a,.sl na (vs Qo A)] ⟨[],0⟩ (OwnR 5 (WalkR (stT types dir g.edges) k w a b)):=by
 intro k
 induction k with
 |zero=>
  intro m w a na A hmk hw hA ha
  have hAl:=hA.len
  have hab:a=b:=(EU _).1 ha
  have p:=valPath (l:=w) (by omega)
  refine Ar rfl rfl ?_
  (conv=>whnf);repeat' (first|(refine Aa p ?_;rintro _ rfl;conv=>whnf)|(refine kA ?_;conv=>whnf)|(refine Br.mk (fun hc=>?_) fun hc=>?_<;>first|exact hc.elim|conv=>whnf)|(refine kB ?_))
  all_goals first
   |(exfalso;omega)
   |exact absurd rfl (by assumption)
   |(refine ⟨_,_,_,[pav w],rfl,rfl,[w],rfl,by simp,fun x=>?_⟩
     rw[List.mem_singleton]
     constructor
     ·rintro rfl;exact⟨[],by simp,hab,rfl⟩
     ·rintro⟨t,rfl,_,rfl⟩;simp)
 |succ k ih=>
  intro m w a na A hmk hw hA ha
  have hAl:=hA.len
  have hwl:=wgv_len (l:=w) (k:=5)
  have hv:(vs GV.av (wgv 5 w)).length=w.length:=by rw[lV,hwl]
  obtain⟨_,⟨wn,W,rfl,pW,sW⟩,hs⟩:=(AcH (g:=g) hg (by omega) (types:=types) (tn:=tn) ht (id:=a) (dir:=dir)).Oj
  have hWl:W.length≤8:=by
   have h1:=pW.length_eq
   have h2:=@Ii types a dir g.edges
   omega
  have h8:8 ^ (k+1)=8*8 ^ k:=by rw[Nat.pow_succ];omega
  have h85:8 ^ k≤8 ^ 5:=pow_le (by omega)
  have h58:(8:Nat) ^ 5=32768:=by decide
  have k0:((A.length:Nat):Int)-1≠0:=by omega
  refine Ar rfl rfl ?_
  (conv=>whnf);repeat' (first|(refine Aa hs ?_;rintro _ rfl;conv=>whnf)|(refine kA ?_;conv=>whnf)|(refine Br.mk (fun hc=>?_) fun hc=>?_<;>first|exact hc.elim|conv=>whnf)|(refine kB ?_))
  all_goals first|(exfalso;omega)|exact absurd (by assumption) k0|skip
  refine Ae (fun mm env s=>∃(i go n c:Nat) (fo:Bool) (O:List (List Int)),mm=W.length-i∧i≤W.length∧n=O.length∧O.length≤i*8 ^ k∧(∀ x,x∈O↔Along (stT types dir g.edges) k b w ((W.take i).map sto) x)∧env=[(1,.sl true (vs GV.av (wgv 5 w))),(3,.sl na (vs Qo A)),(4,.ref 0 0 0 0),(9,.int .i64 (((A.length:Nat):Int)-1)),(10,.own 1 go 0 n),(31,.sl wn (vs Bc.av W)),(32,.int .i64 W.length),(33,.int .i64 i)]∧s=⟨[.arr 0 6 true true [Xp g tn types dir],.arr go 5 fo true (vs pav O)],c⟩) ?_ _ _ _ ⟨0,_,_,_,_,[],rfl,by omega,rfl,by simp,fun x=>⟨fun h=>(by cases h),fun h=>absurd h along_nil⟩,rfl,rfl⟩
  rintro _ _ _ ⟨i,go,n,c,fo,O,rfl,hi,hn,YI,hO,rfl,rfl⟩
  refine⟨rfl,?_⟩
  by_cases hlt:i<W.length
  ·have hiO:O.length≤7*8 ^ k:=Nat.le_trans YI (Nat.mul_le_mul_right _ (by omega))
   have hAk:=hA.at (i:=k) (by omega)
   have n1:nth (vs Qo A) (Int.toNat (((A.length:Nat):Int)-1-1))=some (.sl (A[k]'(by omega)).1 (vi (Ea (CY types (revD dir) g.edges) b k))):=by
        rw[← hAk,show Int.toNat (((A.length:Nat):Int)-1-1)=Int.toNat ((k:Nat):Int) by omega];exact nVN (by omega)
   have hll:=@Ot types (revD dir) g.edges b k
   obtain⟨_,⟨bi,rfl⟩,hbs⟩:=(bsZ (l:=Ea (CY types (revD dir) g.edges) b k) (nn:=(A[k]'(by omega)).1) (x:=(W[i]).to) (by omega) (Aak _ b k)).Oj
   have hst:(W.take (i+1)).map sto=(W.take i).map sto++[sto W[i]]:=KA hlt
   by_cases hin:(W[i]).to∈Ea (CY types (revD dir) g.edges) b k
   ·rw[decide_eq_true hin]at hbs
    have hA2:Ij (CY types (revD dir) g.edges) b (k+1) (A.take (k+1)):=by
     unfold Ij at hA ⊢
     rw[List.map_take,hA,←List.map_take,List.take_range,Nat.min_eq_left (by omega)]
    obtain⟨_,⟨rn,_,rfl,L,rfl,hLl,hL⟩,hp⟩:=(pureP_own (ih (m:=m+1) (w:=w++[(W[i]).ed,(W[i]).to]) (a:=(W[i]).to) (na:=na) (by omega) (by simp;omega) hA2 hin)).Oj
    have ew:=wgv_app2 m (a:=(W[i]).ed) (b:=(W[i]).to) hw
    rw[ew]at hp
    have AgM:sub (vs GV.av (wgv 5 w++[gvK 6 (W[i]).ed,gvK 5 (W[i]).to])) 0 ((wgv 5 w).length+[gvK 6 (W[i]).ed,gvK 5 (W[i]).to].length)=vs GV.av (wgv 5 w++[gvK 6 (W[i]).ed,gvK 5 (W[i]).to]):=by rw[← List.length_append,uV]
    have etk:sub (vs Qo A) 0 (Int.toNat (((A.length:Nat):Int)-1)-0)=vs Qo (A.take (k+1)):=by rw[Vz,show Int.toNat (((A.length:Nat):Int)-1)-0=k+1 by omega,List.drop_zero]
    rw[← AgM]at hp
    have hmem:∀x,x∈O++L↔Along (stT types dir g.edges) k b w ((W.take (i+1)).map sto) x:=fun x=>by
     rw[hst,along_snoc,List.mem_append,hO,hL];rfl
    (conv=>whnf);repeat' (first|(apply AU;(· exact n1);conv=>whnf)|(refine need.mk (Hq (f:=Qo) Wq A) ?_;conv=>whnf)|(apply Bh;(· exact etk);conv=>whnf)|((first|refine Aa hbs ?_|refine Aa valEdge ?_|refine Aa valNode ?_);rintro _ rfl;conv=>whnf)|(refine Aep rfl (Abk (Hq (f:=GV.av) (fun _=>rfl) (wgv 5 w)) (by rw[lV];omega)) ?_;conv=>whnf)|(refine AaJ (f:=GV.av) (l:=wgv 5 w) (l':=[gvK 6 (W[i]).ed,gvK 5 (W[i]).to]) rfl (fun _=>rfl) (by simp) (by simp;omega) ?_;conv=>whnf)|(refine Aa hp ?_;rintro _ rfl;conv=>whnf)|(refine apVm (f:=pav) (l:=O) (l':=L) rfl cellsPav hn (by omega) (fun b=>?_);conv=>whnf)|(refine kA ?_;conv=>whnf)|(refine Br.mk (fun hc=>?_) fun hc=>?_<;>first|exact hc.elim|conv=>whnf)|(refine kB ?_))
    all_goals first
     |(exfalso;omega)
     |exact again.mk ⟨_,by omega,i+1,_,_,_,_,O++L,rfl,by omega,by simp,by rw[List.length_append,Nat.add_mul];omega,hmem,rfl,rfl⟩
   ·rw[decide_eq_false hin]at hbs
    have hmem:∀x,x∈O↔Along (stT types dir g.edges) k b w ((W.take (i+1)).map sto) x:=fun x=>by
     rw[hst,along_snoc,hO]
     constructor
     ·exact .inl
     ·rintro(h|⟨t,_,h⟩)
      ·exact h
      ·exact absurd ((VK nbT_rev).1 (W_of_Wt h)) hin
    (conv=>whnf);repeat' (first|(apply AU;(· exact n1);conv=>whnf)|(refine Aa hbs ?_;rintro _ rfl;conv=>whnf)|(refine kA ?_;conv=>whnf)|(refine Br.mk (fun hc=>?_) fun hc=>?_<;>first|exact hc.elim|conv=>whnf)|(refine kB ?_))
    all_goals first
     |(exfalso;omega)
     |exact again.mk ⟨_,by omega,i+1,_,_,_,_,O,rfl,by omega,hn,by rw[Nat.add_mul];omega,hmem,rfl,rfl⟩
  ·rw[List.take_of_length_le (by omega)]at hO
   (conv=>whnf);repeat' (first  |(refine kA ?_;conv=>whnf)|(refine Br.mk (fun hc=>?_) fun hc=>?_<;>first|exact hc.elim|conv=>whnf)|(refine kB ?_))
   all_goals first
        |(exfalso;omega)
        |exact⟨_,_,_,vs pav O,by rw[lV,←hn];rfl,rfl,O,rfl,Nat.le_trans YI (by rw[h8];exact Nat.mul_le_mul_right _ (by omega)),fun x=>by rw[hO];exact along_all (sto_mem pW)⟩
section
open Go.Sort
def Az (p:Int×Int):AV:=.agg [.int .i64 p.1,.int .i64 p.2]
theorem Bd (x:Int×Int):(Az x).cells.length=2:=rfl
def Cj (x y:Int×Int):Bool:=decide (Ia x.1 y.1<0)
theorem LD:SWO Cj:=(AcD.on Prod.fst).swo
theorem Abp {x y:Int×Int}:Cj x y=true↔x.1<y.1:=by unfold Cj;rw[decide_eq_true_eq];exact ZW
theorem Eu {x y:Int×Int}:Au (Ac tab) 36 [Az x,Az y] (· =.int .i64 (Ia x.1 y.1)):=by
 have q4:Au (Ac tab) 37 [.int .i64 x.1,.int .i64 y.1] (· =.int .i64 (Ia x.1 y.1)):=compare
 refine Af rfl rfl ?_
 (conv=>whnf);repeat' (first|(refine Aa q4 ?_;rintro _ rfl;conv=>whnf)|(refine kA ?_;conv=>whnf)|(refine Br.mk (fun hc=>?_) fun hc=>?_<;>first|exact hc.elim|conv=>whnf)|(refine kB ?_))
 all_goals first|rfl
theorem FP {x y:Int×Int} {A B:Prop} (h1:Cj x y=true→A) (h2:Cj x y=false→B):KH (Ia x.1 y.1<0) A B:=
 ⟨fun h=>h1 (decide_eq_true h),fun h=>h2 (decide_eq_false h)⟩
attribute [irreducible] Cj
end
def pz (p:Int×Nat):Int×Int:=(p.1,p.2)
structure Qe (seen:List (Int×Nat)) (O:List (Int×Int)):Prop where
 inc:O.Pairwise fun p q=>p.1<q.1
 mem:∀p,p∈O↔p∈seen.map pz
section
variable {types:List (List UInt8)} {dir:Int} {E:List GE}
theorem QA.few {a:Int} {d:Nat} {seen:List (Int×Nat)} {level:List Int} (h:QA (CY types dir E) a d seen level):seen.length≤1+2*E.length:=by
 have:=List.Nodup.length_le_of_subset h.nd (l₂:=a::Ll E) fun x hx=>by
  obtain⟨p,hp,rfl⟩:=List.mem_map.1 hx
  have hw:=(h.ok p hp).2.1
  cases hk:p.2 with
  |zero=>rw[hk,EU]at hw;simp[hw]
  |succ k=>
   rw[hk]at hw
   obtain⟨y,_,hy⟩:=(Dw _).1 hw
   exact List.mem_cons_of_mem _ (GY hy)
 rw[List.length_map,List.length_cons,GX]at this
 omega
theorem QA.Ri {a:Int} {d:Nat} {seen:List (Int×Nat)} {level:List Int} (h:QA (CY types dir E) a d seen level):level.length≤1+2*E.length:=by
 have h1:=Lm h.inc (U:=seen.map (·.1)) fun x hx=>List.mem_map.2 ⟨_,(h.lv x).1 hx,rfl⟩
 have h2:=h.few
 rw[List.length_map]at h1
 omega
def Zg (seen:List (Int×Nat)) (level:List Int):Nat:=2*(1000-seen.length)+(if level=[]then 0 else 1)
theorem QA.less {a:Int} {d:Nat} {seen:List (Int×Nat)} {level:List Int} (h:QA (CY types dir E) a d seen level) (hE:E.length≤100) (hne:level≠[]):Zg (seen++(fresh seen (nextL (CY types dir E) level)).map fun x=>(x,d)) (fresh seen (nextL (CY types dir E) level))<Zg seen level:=by
 have h1:=h.few
 have h2:=(h.step).few
 unfold Zg
 rw[List.length_append,List.length_map]at*
 rw[if_neg hne]
 split
 ·rename_i e;rw[e]at h2 ⊢;simp at h2 ⊢
 ·rename_i e
  have:0<(fresh seen (nextL (CY types dir E) level)).length:=List.length_pos_iff.2 e
  omega
end
theorem PO {seen:List (Int×Nat)} {N:List Int} {j:Nat} (h:j<N.length):fresh seen (N.take (j+1))=fresh seen (N.take j)++if N[j]∈seen.map (·.1)then[]else[N[j]]:=by
 unfold fresh
 rw[List.take_succ_eq_append_getElem h,List.filter_append]
 congr 1
 simp only[List.filter_cons,List.filter_nil]
 by_cases hc:N[j]∈seen.map (·.1)
 ·rw[if_pos hc,if_neg (by simp[hc])]
 ·rw[if_neg hc,if_pos (by simp[hc])]
structure DsO (nb:Int→List Int) (a:Int) (O:List (Int×Int)):Prop where
 inc:O.Pairwise fun p q=>p.1<q.1
 mem:∀p:Int×Int,p∈O↔∃k:Nat,p.2=k∧Qp nb a p.1 k
theorem Qe.ds {nb:Int→List Int} {a:Int} {d:Nat} {seen:List (Int×Nat)} {O:List (Int×Int)} (h:Qe seen O) (hb:QA nb a d seen []):DsO nb a O where
 inc:=h.inc
 mem p:=by
  rw[h.mem,List.mem_map]
  constructor
  ·rintro⟨q,hq,rfl⟩;exact⟨q.2,rfl,(hb.done nb _ _).1 hq⟩
  ·rintro⟨k,e,hk⟩;exact⟨(p.1,k),(hb.done nb _ _).2 hk,by unfold pz;rw[← e]⟩
theorem DsO.unique {nb:Int→List Int} {a:Int} {O O':List (Int×Int)} (h:DsO nb a O) (k:DsO nb a O'):O=O':=by
 have hm:∀p,p∈O↔p∈O':=fun p=>(h.mem p).trans (k.mem p).symm
 have hi:=h.inc
 have ki:=k.inc
 clear h k
 induction O generalizing O' with
 |nil=>cases O' with
  |nil=>rfl
  |cons b m=>exact absurd ((hm b).2 (by simp)) (by simp)
 |cons a l ih=>cases O' with
  |nil=>exact absurd ((hm a).1 (by simp)) (by simp)
  |cons b m=>
   have k1:=List.pairwise_cons.1 hi
   have k2:=List.pairwise_cons.1 ki
   have hab:a=b:=by
        rcases List.mem_cons.1 ((hm a).1 (by simp))with e|e
        ·exact e
        rcases List.mem_cons.1 ((hm b).2 (by simp))with e2|e2
        ·exact e2.symm
        have:=k1.1 b e2;have:=k2.1 a e;omega
   subst hab
   rw[ih (fun x=>?_) k1.2 k2.2]
   have hx:=hm x
   simp only[List.mem_cons]at hx
   constructor
   ·intro hl
    rcases hx.1 (.inr hl)with e|e
    ·subst e;exact absurd (k1.1 x hl) (by omega)
    ·exact e
   ·intro hl
    rcases hx.2 (.inr hl)with e|e
    ·subst e;exact absurd (k2.1 x hl) (by omega)
    ·exact e
end AI
end Go.Proofs.YthjeehjphekjmaaGreatDoor
