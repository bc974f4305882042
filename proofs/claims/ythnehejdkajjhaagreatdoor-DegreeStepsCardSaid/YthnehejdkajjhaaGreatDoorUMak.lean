/- One more at the end of a list that is put into: what a reference's loop does, step by step. The reference puts nodes into a graph, exactly. The reference's numbers, classes, strings compared. The null value. The reference's order of a value and null. The reference: lists of labels with one more, one less. The reference's null, lists of properties and labels. Orders: lexicographic, of numbers, of strings; the first that is not 0. Looking up a key in properties: slices.BinarySearchFunc, on memory that stays. The reference sets a property, exactly. Taking out, at the end of a list. The reference takes a property away (set to null), exactly. The reference: lists of labels with one more, one less, exactly. -/
import Derived.Test.YthnehejdkajjhaaGreatDoorBMaa
import Derived.Test.YthnehejdkajjhaaGreatDoorUMaj
import Derived.Test.YthnehejdkajjhaaGreatDoorUMag
import Derived.Test.YthnehejdkajjhaaGreatDoorUMad
set_option linter.unusedVariables false
set_option maxRecDepth 4000
namespace Go.Proofs.YthnehejdkajjhaaGreatDoor
namespace AI
section
variable {α κ:Type} {lt:κ→κ→Bool} {key:α→κ}
theorem Pq {x y:α} {L:List α} (hs:Ov lt) (h:lt (key x) (key y)=true):A8 lt key x (L++[y])=A8 lt key x L++[y]:=by
 have h1:lt (key y) (key x)=false:=by
  cases hb:lt (key y) (key x)with
  |false=>rfl
  |true=>have:=hs.tr _ _ _ h hb;rw[hs.Oc]at this;cases this
 simp only[A8,below,above,List.filter_append,List.filter_cons,List.filter_nil,h,h1,if_true,List.append_assoc]
 rfl
theorem LW {x:α} {L:List α} (hs:Ov lt) (h:∀y∈L,lt (key y) (key x)=true):A8 lt key x L=L++[x]:=by
 have e1:below lt key (key x) L=L:=filter_all h
 have e2:above lt key (key x) L=[]:=filter_none fun y hy=>by
  cases hb:lt (key x) (key y)with
  |false=>rfl
  |true=>have:=hs.tr _ _ _ hb (h y hy);rw[hs.Oc]at this;cases this
 rw[A8,e1,e2,List.append_nil]
theorem Tj {x y:α} {L:List α} (hs:Ov lt) (h:∀y∈L,lt (key y) (key x)=true) (e:key y=key x):A8 lt key x (L++[y])=L++[x]:=by
 have h1:lt (key y) (key x)=false:=by rw[e];exact hs.Oc _
 have h2:lt (key x) (key y)=false:=by rw[e];exact hs.Oc _
 rw[← LW hs h]
 simp[A8,below,above,List.filter_append,h1,h2]
end
theorem VQ {α:Type} {key:α→Int} {l:List α} {i:Nat} {x:Int} (h:Inc BX key l) (hi:i<l.length) (hx:x≤key l[i]):∀y∈l.drop (i+1),x<key y:=by
 intro y hy
 obtain⟨j,hj,rfl⟩:=List.mem_drop_iff_getElem.1 hy
 have:=h.get (show i<i+1+j by omega) (by omega)
 simp only[BX,decide_eq_true_eq]at this
 omega
theorem AbE {x y:GN} {L:List GN} (h:x.id<y.id):A8 BX GN.id x (L++[y])=A8 BX GN.id x L++[y]:=Pq Ak (by simpa[BX]using h)
theorem AbF {x:GN} {L:List GN} (h:∀y∈L,y.id<x.id):A8 BX GN.id x L=L++[x]:=LW Ak fun y hy=>by simpa[BX]using h y hy
theorem AlB {x y:GN} {L:List GN} (h:∀y∈L,y.id<x.id) (e:y.id=x.id):A8 BX GN.id x (L++[y])=L++[x]:=Tj Ak (fun y hy=>by simpa[BX]using h y hy) e
set_option maxHeartbeats 1000000 in
theorem Aa9 {g:GG} {n:GN} (hg:g.ok) (hN:g.nodes.length≤3000) (hI:Inc BX GN.id g.nodes) (hi1:1≤n.id) (hi2:n.id≤1000000):Ag (Ac tab) 72 [g.av,n.av] (· =GG.av ⟨true,A8 BX GN.id n g.nodes,g.en,g.edges,(if n.id+1>g.BF then n.id+1 else g.BF),g.BA⟩):=by
 obtain⟨g1,g2,g3,g4,g5,g6,g7,g8⟩:=hg
 unfold I64 at g7
 refine Ad rfl rfl ?_
 (conv=>whnf);repeat' (first  |(refine kA ?_;conv=>whnf)|(refine Br.mk (fun hc=>?_) fun hc=>?_<;>first|exact hc.elim|conv=>whnf)|(refine kB ?_))
 refine Af (fun m env s=>∃(i c go k:Nat) (b d:Bool) (l:List GN),m=g.nodes.length-i∧i≤g.nodes.length∧k=l.length∧l.length≤i+1∧(b=false→d=false)∧(d=false→l=g.nodes.take i∧∀y∈g.nodes.take i,y.id<n.id)∧(d=true→l=A8 BX GN.id n (g.nodes.take i)∧∀y∈g.nodes.drop i,n.id<y.id)∧env=[(2,.ref 0 0 0 0),(3,.ref 1 1 0 0),(4,.ref 2 2 0 0),(5,.own 3 go 0 k),(6,.bool d),(7,.int .i64 i)]∧
  s=⟨[.arr 0 4 true true [g.av],.arr 1 3 true true [n.av],.arr 2 4 true true [.agg [.sl false [],.sl false [],.int .i64 0,.int .i64 0]],.arr go 3 b true (vs GN.av l)],c⟩) ?_ _ _ _ ⟨0,_,_,0,_,_,[],rfl,by omega,rfl,by simp,fun _=>rfl,fun _=>⟨rfl,by simp⟩,fun h=>Bool.noConfusion h,rfl,rfl⟩
 rintro _ _ _ ⟨i,c,go,k,b,d,l,rfl,hi,hk,hl,hb,hd,ht,rfl,rfl⟩
 refine⟨rfl,?_⟩
 subst hk
 by_cases hlt:i<g.nodes.length
 ·have hda:∀x:Int,x≤(g.nodes[i]).id→∀y∈g.nodes.drop (i+1),x<y.id:=fun x hx=>VQ hI hlt hx
  have hs:=List.take_succ_eq_append_getElem hlt
  have htk:∀{P:GN→Prop},(∀ y∈g.nodes.take i,P y)→P g.nodes[i]→∀y∈g.nodes.take (i+1),P y:=fun{P} h1 h2 y hy=>by
   rw[hs]at hy
   rcases List.mem_append.1 hy with hy|hy
   ·exact h1 y hy
   ·obtain rfl:=List.mem_singleton.1 hy;exact h2
  cases d
  ·obtain⟨rfl,hlo⟩:=hd rfl
   have hle:(g.nodes.take i).length≤i:=by rw[List.length_take];omega
   (conv=>whnf);repeat' (first|(refine Dt (x:=n) Xe (by simp) (by simp;omega) ?_;conv=>whnf)|(refine Dt (x:=g.nodes[i]) Xe (by simp) (by simp;omega) ?_;conv=>whnf)|(refine kA ?_;conv=>whnf)|(refine Br.mk (fun hc=>?_) fun hc=>?_<;>first|exact hc.elim|conv=>whnf)|(refine kB ?_))
   all_goals first
        |exact again.mk ⟨_,by omega,i+1,_,_,_,_,_,g.nodes.take i++[n]++[g.nodes[i]],rfl,by omega,by simp,by simp;omega,fun h=>Bool.noConfusion h,fun h=>Bool.noConfusion h,fun _=>⟨by rw[hs,AbE (by omega),AbF hlo],hda _ (by omega)⟩,rfl,rfl⟩
        |exact again.mk ⟨_,by omega,i+1,_,_,_,_,_,g.nodes.take i++[n],rfl,by omega,by simp,by simp;omega,fun h=>Bool.noConfusion h,fun h=>Bool.noConfusion h,fun _=>⟨by rw[hs,AlB hlo (by omega)],hda _ (by omega)⟩,rfl,rfl⟩
        |exact again.mk ⟨_,by omega,i+1,_,_,_,_,_,g.nodes.take i++[g.nodes[i]],rfl,by omega,by rw[List.length_append,List.length_singleton],by rw[List.length_append,List.length_singleton];omega,fun _=>rfl,fun _=>⟨hs.symm,htk hlo (by omega)⟩,fun h=>Bool.noConfusion h,rfl,rfl⟩
        |(exfalso;omega)
  ·obtain⟨rfl,hhi⟩:=ht rfl
   have hgt:n.id<(g.nodes[i]).id:=hhi _ (by rw[List.drop_eq_getElem_cons hlt];exact List.mem_cons_self)
   (conv=>whnf);repeat' (first|(refine Dt (x:=g.nodes[i]) Xe (by simp) (by simp;omega) ?_;conv=>whnf)|(refine kA ?_;conv=>whnf)|(refine Br.mk (fun hc=>?_) fun hc=>?_<;>first|exact hc.elim|conv=>whnf)|(refine kB ?_))
   all_goals first
        |exact again.mk ⟨_,by omega,i+1,_,_,_,_,_,A8 BX GN.id n (g.nodes.take i)++[g.nodes[i]],rfl,by omega,by simp,by simp;omega,fun h=>Bool.noConfusion h,fun h=>Bool.noConfusion h,fun _=>⟨by rw[hs,AbE hgt],hda _ (by omega)⟩,rfl,rfl⟩
        |(exfalso;omega)
 ·obtain rfl:i=g.nodes.length:=by omega
  rw[List.take_length]at hd ht
  cases d
  ·obtain⟨rfl,hlo⟩:=hd rfl
   rw[AbF hlo]
   (conv=>whnf);repeat' (first|(refine Dt (x:=n) Xe (by simp) (by simp;omega) ?_;conv=>whnf)|(refine kA ?_;conv=>whnf)|(refine Br.mk (fun hc=>?_) fun hc=>?_<;>first|exact hc.elim|conv=>whnf)|(refine kB ?_))
   all_goals first|rfl|(exfalso;omega)
  ·obtain⟨rfl,_⟩:=ht rfl
   cases b
   ·exact absurd (hb rfl) Bool.noConfusion
   (conv=>whnf);repeat' (first  |(refine kA ?_;conv=>whnf)|(refine Br.mk (fun hc=>?_) fun hc=>?_<;>first|exact hc.elim|conv=>whnf)|(refine kB ?_))
   all_goals first|rfl|(exfalso;omega)
theorem AmC {k:Int}:Ag (Ac tab) 156 [.int .i64 k,.int .i64 k] (· =.int .i64 0):=by
 refine Ad rfl rfl ?_
 (conv=>whnf);repeat' (first|(refine kA ?_;conv=>whnf)|(refine Br.mk (fun hc=>?_) fun hc=>?_<;>first|exact hc.elim|conv=>whnf)  |(refine kB ?_))
 all_goals rfl
theorem Za:∀s:List UInt8,Op.bytesLess s s=false
 |[]=>rfl
 |a::s=>by simp[Op.bytesLess,Za s]
theorem Aq0 {s:List UInt8}:Ag (Ac tab) 210 [.str s,.str s] (· =.int .i64 0):=by
 refine Ad rfl rfl ?_
 (conv=>whnf);repeat' (first|(refine kA ?_;conv=>whnf)|(refine Br.mk (fun hc=>?_) fun hc=>?_<;>first|exact hc.elim|conv=>whnf)  |(refine kB ?_))
 all_goals first|rfl|(exfalso;simp[Za]at hc)
def XK:GV:=⟨0,0,0,[],false,[]⟩
theorem AcA:XK.ok:=⟨by unfold I64 XK;dsimp only;omega,by unfold I64 XK;dsimp only;omega,by unfold I64 XK;dsimp only;omega,by simp[Ln,XK],by simp[Ln,XK],fun _=>rfl,by simp[XK]⟩
def isNull (v:GV):Prop:=v.k=0∧v.n=0∧v.d=0∧v.s=[]∧v.l.length=0
instance (v:GV):Decidable (isNull v):=by unfold isNull;infer_instance
theorem Aa5:isNull XK:=⟨rfl,rfl,rfl,rfl,rfl⟩
def VU (k:Int):Int:=if k=0 then 0 else if k=1 then 1 else if k=2∨k=3 then 2 else if k=4 then 3 else if k=5 then 4 else if k=6 then 5 else if k=8 then 6 else 7
theorem AqY {k:Int}:VU k=0↔k=0:=by
 unfold VU
 constructor
 ·intro h
  repeat' split at h
  all_goals first|assumption|(exfalso;omega)
 ·intro h;rw[if_pos h]
theorem Tv {k:Int}:Ag (Ac tab) 157 [.int .i64 k] (· =.int .i64 (VU k)):=by
 refine Ad rfl rfl ?_
 (conv=>whnf);repeat' (first  |(refine kA ?_;conv=>whnf)|(refine Br.mk (fun hc=>?_) fun hc=>?_<;>first|exact hc.elim|conv=>whnf)|(refine kB ?_))
 all_goals first
  |rfl
  |(unfold VU;repeat' split
    all_goals first|rfl|(exfalso;omega))
theorem Aks {v:GV} (hv:v.ok) (hk:v.k=0) {n:Int}:Ag (Ac tab) 209 [v.av,.int .i64 n] (· =.bool (decide (isNull v))):=by
 have hl:=hv.2.2.2.2.1
 unfold Ln at hl
 refine Ad rfl rfl ?_
 (conv=>whnf);repeat' (first|(refine Bo (Aa4 (v:=v) (n:=false) (d:=false) (s:=false) (l:=false) hl) (fun hb=>?_) (fun hb=>?_)<;>conv=>whnf)|(refine kA ?_;conv=>whnf)|(refine Br.mk (fun hc=>?_) fun hc=>?_<;>first|exact hc.elim|conv=>whnf)|(refine kB ?_))
 ·unfold OD at hb
  exact Bh ⟨hk,hb.1.resolve_left (by decide),hb.2.1.resolve_left (by decide),hb.2.2.1.resolve_left (by decide),hb.2.2.2.resolve_left (by decide)⟩
 ·unfold OD at hb
  exact Ar fun h=>hb ⟨.inr h.2.1,.inr h.2.2.1,.inr h.2.2.2.1,.inr h.2.2.2.2⟩
theorem AdR {v:GV} (hv:v.ok):Ag (Ac tab) 153 [v.av] (fun w=>∃b,w=.bool b∧(isNull v→b=true)∧(b=true→v.k=0→isNull v)):=by
 by_cases hk:v.k=0
 ·refine Ad rfl rfl ?_
  (conv=>whnf);repeat' (first|(refine Bo (Aks hv hk) (fun hb=>?_) (fun hb=>?_)<;>conv=>whnf)|(refine kA ?_;conv=>whnf)|(refine Br.mk (fun hc=>?_) fun hc=>?_<;>first|exact hc.elim|conv=>whnf)|(refine kB ?_))
  ·exact⟨_,rfl,fun _=>rfl,fun _ _=>hb⟩
  ·exact⟨_,rfl,fun h=>absurd h hb,fun h=>Bool.noConfusion h⟩
 ·obtain⟨_,⟨b,rfl⟩,h⟩:=(Valid hv).IJ
  refine Ad rfl rfl ?_
  (conv=>whnf);repeat' (first|(refine Aa (valid (n:=8) (by omega) hv) ?_;rintro _ ⟨b,rfl⟩;conv=>whnf)|(refine kA ?_;conv=>whnf)|(refine Br.mk (fun hc=>?_) fun hc=>?_<;>first|exact hc.elim|conv=>whnf)|(refine kB ?_))
  all_goals exact⟨_,rfl,fun h=>absurd h.1 hk,fun _ h=>absurd h hk⟩
theorem AqZ {a b:Int}:Ag (Ac tab) 156 [.int .i64 a,.int .i64 b] (fun v=>∃z,v=.int .i64 z∧(z=0↔a=b)):=by
 refine Ad rfl rfl ?_
 (conv=>whnf);repeat' (first  |(refine kA ?_;conv=>whnf)|(refine Br.mk (fun hc=>?_) fun hc=>?_<;>first|exact hc.elim|conv=>whnf)|(refine kB ?_))
 all_goals exact⟨_,rfl,by omega⟩
theorem Akt {v:GV} (h:isNull v):Ag (Ac tab) 155 [v.av,XK.av] (· =.int .i64 0):=by
 obtain⟨k,n,d,s,nn,l⟩:=v
 obtain⟨h1,h2,h3,h4,h5⟩:=h
 dsimp only at h1 h2 h3 h4 h5
 subst h1 h2 h3 h4
 obtain rfl:l=[]:=List.eq_nil_of_length_eq_zero h5
 have hl:Ag (Ac tab) 211 [.sl nn [],.sl false []] (· =.int .i64 0):=by
  refine Ad rfl rfl ?_
  (conv=>whnf);repeat' (first  |(refine kA ?_;conv=>whnf)|(refine Br.mk (fun hc=>?_) fun hc=>?_<;>first|exact hc.elim|conv=>whnf)|(refine kB ?_))
  refine Af (fun m env s=>m=0∧env=[(0,.sl nn []),(1,.sl false []),(5,.int .i64 0)]∧s=⟨[],0⟩) ?_ _ _ _ ⟨rfl,rfl,rfl⟩
  rintro _ _ _ ⟨rfl,rfl,rfl⟩
  refine⟨rfl,?_⟩
  (conv=>whnf);repeat' (first|(refine Aa AmC ?_;rintro _ rfl;conv=>whnf)|(refine kA ?_;conv=>whnf)|(refine Br.mk (fun hc=>?_) fun hc=>?_<;>first|exact hc.elim|conv=>whnf)|(refine kB ?_))
  all_goals rfl
 refine Ad rfl rfl ?_
 (conv=>whnf);repeat' (first|((first|refine Aa AmC ?_|refine Aa Aq0 ?_|refine Aa hl ?_);rintro _ rfl;conv=>whnf)|(refine kA ?_;conv=>whnf)|(refine Br.mk (fun hc=>?_) fun hc=>?_<;>first|exact hc.elim|conv=>whnf)|(refine kB ?_))
 all_goals rfl
theorem AdS {g:GV} (hg:g.ok):Ag (Ac tab) 158 [g.av] (fun v=>∃n d b,v=.BG [.agg [.int .i64 n,.int .i64 d],.bool b]∧(b=true→g.k=2∨g.k=3)):=by
 refine Ad rfl rfl ?_
 (conv=>whnf);repeat' (first|(refine Aa (Valid hg) ?_;rintro _ ⟨b,rfl⟩;conv=>whnf)|(refine kA ?_;conv=>whnf)|(refine Br.mk (fun hc=>?_) fun hc=>?_<;>first|exact hc.elim|conv=>whnf)|(refine kB ?_))
 all_goals first|exact⟨_,_,_,rfl,fun h=>Bool.noConfusion h⟩|exact⟨_,_,_,rfl,fun _=>by omega⟩
theorem AuI:Ag (Ac tab) 154 [.bool false] (· =.int .i64 0):=by
 refine Ad rfl rfl ?_
 (conv=>whnf);repeat' (first  |(refine kA ?_;conv=>whnf)|(refine Br.mk (fun hc=>?_) fun hc=>?_<;>first|exact hc.elim|conv=>whnf)|(refine kB ?_))
 rfl
theorem Aku {v:GV} (hv:v.ok):Ag (Ac tab) 88 [v.av,XK.av] (fun w=>∃z,w=.int .i64 z∧(z=0↔isNull v)):=by
 obtain⟨_,⟨b,rfl,v1,v2⟩,hV⟩:=(AdR hv).IJ
 obtain⟨_,⟨b0,rfl,w1,_⟩,hV0⟩:=(AdR AcA).IJ
 obtain rfl:=w1 Aa5
 obtain⟨_,⟨n,d,b2,rfl,h2⟩,hN⟩:=(AdS hv).IJ
 obtain⟨_,⟨n0,d0,b3,rfl,h3⟩,hN0⟩:=(AdS AcA).IJ
 obtain⟨_,⟨z,rfl,hz⟩,hI⟩:=(AqZ (a:=VU v.k) (b:=VU XK.k)).IJ
 have h0:VU XK.k=0:=rfl
 have hzk:z=0↔v.k=0:=by rw[hz,h0];exact AqY
 cases b with
 |false=>
  have hnn:¬isNull v:=fun h=>by have:=v1 h;cases this
  refine Ad rfl rfl ?_
  (conv=>whnf);repeat' (first|((first|refine Aa hV ?_|refine Aa hV0 ?_|refine Aa AuI ?_);rintro _ rfl;conv=>whnf)|(refine kA ?_;conv=>whnf)|(refine Br.mk (fun hc=>?_) fun hc=>?_<;>first|exact hc.elim|conv=>whnf)|(refine kB ?_))
  all_goals exact⟨_,rfl,fun h=>absurd h (by decide),fun h=>absurd h hnn⟩
 |true=>
  by_cases hk:v.k=0
  ·have hnl:=v2 rfl hk
   have hz0:=hzk.2 hk
   have hb2:b2=false:=by cases b2 with
        |false=>rfl
        |true=>have:=h2 rfl;omega
   subst hb2
   refine Ad rfl rfl ?_
   (conv=>whnf);repeat' (first|((first|refine Aa hV ?_|refine Aa hV0 ?_|refine Aa (Tv (k:=v.k)) ?_|refine Aa (Tv (k:=XK.k)) ?_|refine Aa hI ?_|refine Aa hN ?_|refine Aa hN0 ?_|refine Aa (Akt hnl) ?_);rintro _ rfl;conv=>whnf)|(refine kA ?_;conv=>whnf)|(refine Br.mk (fun hc=>?_) fun hc=>?_<;>first|exact hc.elim|conv=>whnf)|(refine kB ?_))
   all_goals exact⟨_,rfl,fun _=>hnl,fun _=>rfl⟩
  ·have hz0:=mt hzk.1 hk
   refine Ad rfl rfl ?_
   (conv=>whnf);repeat' (first|((first|refine Aa hV ?_|refine Aa hV0 ?_|refine Aa (Tv (k:=v.k)) ?_|refine Aa (Tv (k:=XK.k)) ?_|refine Aa hI ?_);rintro _ rfl;conv=>whnf)|(refine kA ?_;conv=>whnf)|(refine Br.mk (fun hc=>?_) fun hc=>?_<;>first|exact hc.elim|conv=>whnf)|(refine kB ?_))
   all_goals exact⟨_,rfl,fun h=>absurd h hz0,fun h=>absurd h.1 hk⟩
theorem AuQ {α:Type} {f:α→AV} {es g len:Nat} {nn cl:Bool} {l l':List α} {ys:List AV} {bytes:Nat} {K:Nat→Bool→Bool→List AV→Prop} (he:ys=vs f l') (hf:∀x,(f x).cells.length=es) (hl:len=l.length) (hr:(l.length+l'.length)*bytes≤2 ^ 46) (hn:nn=false→l=[]) (h:∀b,(b=false→l++l'=[])→K (l.length+l'.length) b cl (vs f (l++l'))):
 La g g es es len nn cl true (vs f l) ys bytes K:=by
 subst hl he
 refine⟨⟨rfl,rfl,by simp,Ey hf l',by rw[lV];exact OG hr⟩,?_⟩
 rw[lV,Bool.and_true,List.take_of_length_le (by simp)]
 have:=h (nn||!(vs f l').isEmpty) (fun hb=>by
  simp[vs]at hb
  rw[hn hb.1,hb.2];rfl)
 simpa[vs]using this
theorem AkJ {α:Type} {A B:List α}:List.take (A.length+B.length) (List.drop 0 (A++B))=A++B:=by
 rw[List.drop_zero,List.take_of_length_le (Nat.le_of_eq List.length_append)]
theorem AcH (x:List UInt8):(AV.str x).cells.length=1:=rfl
theorem Abw {p q:Prop} [Decidable p] [Decidable q] (h:p↔q):AV.bool (decide p)=AV.bool (decide q):=by
 by_cases hp:p
 ·rw[decide_eq_true hp,decide_eq_true (h.1 hp)]
 ·rw[decide_eq_false hp,decide_eq_false (mt h.2 hp)]
theorem AgE {g:GV} (hg:g.ok):Ag (Ac tab) 122 [g.av] (· =.bool (decide (isNull g))):=by
 refine Ad rfl rfl ?_
 (conv=>whnf);repeat' (first|(refine Aa (Aku hg) ?_;rintro _ ⟨z,rfl,hz⟩;conv=>whnf)|(refine kA ?_;conv=>whnf)|(refine Br.mk (fun hc=>?_) fun hc=>?_<;>first|exact hc.elim|conv=>whnf)|(refine kB ?_))
 all_goals first|exact Bh (hz.1 hc)|exact Ar (mt hz.2 hc)|exact Abw hz
section
open Go.Sort
def Eh (a b:Int):Int:=if a=0 then b else a
def cS (x y:List UInt8):Int:=if Op.bytesLess x y=true then -1 else if Op.bytesLess y x=true then 1 else 0
structure PC {α:Type} (c:α→α→Int):Prop where
 anti:∀x y,c y x=-c x y
 trans:∀x y z,c x y≤0→c y z≤0→c x z≤0
theorem PC.on {α β:Type} {c:β→β→Int} (h:PC c) (p:α→β):PC fun x y=>c (p x) (p y):=⟨fun x y=>h.anti _ _,fun x y z=>h.trans _ _ _⟩
theorem Vx:∀(x y:List UInt8),Op.bytesLess x y=decide (x<y)
 |[],[]=>by simp[Op.bytesLess]
 |_::_,[]=>by simp[Op.bytesLess]
 |[],_::_=>by simp[Op.bytesLess]
 |a::x,b::y=>by
  rw[Op.bytesLess,Vx x y]
  simp only[List.cons_lt_cons_iff]
  by_cases h1:a<b<;>by_cases h2:a=b<;>by_cases h3:x<y<;>simp[h1,h2,h3]
theorem Ab7 (x y:List UInt8):Op.bytesLess x y=ltStr x y:=Vx x y
theorem Adp {x y:List UInt8} (h1:Op.bytesLess x y=false) (h2:Op.bytesLess y x=false):x=y:=by
 rw[Ab7]at h1 h2
 simp only[ltStr,decide_eq_false_iff_not]at h1 h2
 exact List.le_antisymm (List.not_lt.1 h2) (List.not_lt.1 h1)
theorem Adq:PC cS where
 anti x y:=by
  have h:Op.bytesLess x y=true→Op.bytesLess y x=true→False:=fun a b=>by
   rw[Ab7]at a b
   have:=swo_ltStr.trans x y x a b
   rw[swo_ltStr.irrefl]at this;cases this
  unfold cS
  by_cases a:Op.bytesLess x y=true<;>by_cases b:Op.bytesLess y x=true<;>simp[a,b]
  exact h a b
 trans x y z h1 h2:=by
  have n1:Op.bytesLess y x=false:=by
   unfold cS at h1
   split at h1
   ·rename_i a
    cases hb:Op.bytesLess y x with
    |false=>rfl
    |true=>
     rw[Ab7]at a hb
     have:=swo_ltStr.trans x y x a hb
     rw[swo_ltStr.irrefl]at this;cases this
   ·split at h1
    ·omega
    ·rename_i b;simpa using b
  have n2:Op.bytesLess z y=false:=by
   unfold cS at h2
   split at h2
   ·rename_i a
    cases hb:Op.bytesLess z y with
    |false=>rfl
    |true=>
     rw[Ab7]at a hb
     have:=swo_ltStr.trans y z y a hb
     rw[swo_ltStr.irrefl]at this;cases this
   ·split at h2
    ·omega
    ·rename_i b;simpa using b
  have n3:Op.bytesLess z x=false:=by rw[Ab7]at *;exact swo_ltStr.ntrans z y x n2 n1
  unfold cS
  split
  ·omega
  ·rw[n3];simp
theorem Va {x y:List UInt8}:cS x y=0↔x=y:=by
 constructor
 ·intro h
  unfold cS at h
  split at h
  ·omega
  ·split at h
   ·omega
   ·rename_i a b;exact Adp (by simpa using a) (by simpa using b)
 ·rintro rfl
  have:=Adq.anti x x
  omega
theorem Anc {x:List UInt8}:Ag (Ac tab) 251 [.str x] (· =.bool false):=by
 refine Ad rfl rfl ?_
 (conv=>whnf);repeat' (first  |(refine kA ?_;conv=>whnf)|(refine Br.mk (fun hc=>?_) fun hc=>?_<;>first|exact hc.elim|conv=>whnf)|(refine kB ?_))
 all_goals first|rfl|(exfalso;simp_all)
theorem Amj {x y:List UInt8} (h:Op.bytesLess x y=true):AV.int .i64 (-1)=.int .i64 (cS x y):=by unfold cS;rw[if_pos h]
theorem Amk {x y:List UInt8} (h:Op.bytesLess x y=false) (h2:(Op.bytesLess x y||x==y)=true):AV.int .i64 0=.int .i64 (cS x y):=by
 rw[h,Bool.false_or,beq_iff_eq]at h2
 rw[Va.2 h2]
theorem Aml {x y:List UInt8} (h2:(Op.bytesLess x y||x==y)=false):AV.int .i64 1=.int .i64 (cS x y):=by
 rw[Bool.or_eq_false_iff,beq_eq_false_iff_ne]at h2
 have h3:Op.bytesLess y x=true:=by
  cases h:Op.bytesLess y x with
  |true=>rfl
  |false=>exact absurd (Adp h2.1 h) h2.2
 unfold cS;rw[h2.1,h3];rfl
theorem WV {x y:List UInt8}:Ag (Ac tab) 202 [.str x,.str y] (· =.int .i64 (cS x y)):=by
 refine Ad rfl rfl ?_
 (conv=>whnf);repeat' (first|(refine Aa Anc ?_;rintro _ rfl;conv=>whnf)|(refine kA ?_;conv=>whnf)|(refine Br.mk (fun hc=>?_) fun hc=>?_<;>first|exact hc.elim|conv=>whnf)|(refine kB ?_))
 all_goals first|exact Amj hc|exact Amk (by assumption) hc|exact Aml hc
end
theorem Ai:Ov Op.bytesLess where
 Oc:=fun x=>by rw[Vx];simp
 tr:=fun x y z h1 h2=>by rw[Vx]at *;simp only[decide_eq_true_eq]at *;exact List.lt_trans h1 h2
 tot:=fun x y h1 h2=>Adp h1 h2
theorem Atk {a b:List UInt8} (h:cS a b<0):Op.bytesLess a b=true:=by
 unfold cS at h
 split at h
 ·assumption
 ·split at h<;>omega
theorem ApS {a b:List UInt8} (h:¬cS a b<0):Op.bytesLess a b=false:=by
 cases h1:Op.bytesLess a b
 ·rfl
 ·exact absurd (by unfold cS;rw[if_pos h1];omega) h
theorem AvR {n:GP} {x:List UInt8}:Ag (Ac tab) 201 [n.av,.str x] (· =.int .i64 (cS n.key x)):=by
 refine Ad rfl rfl ?_
 (conv=>whnf);repeat' (first|(refine kA ?_;conv=>whnf)|(refine Br.mk (fun hc=>?_) fun hc=>?_<;>first|exact hc.elim|conv=>whnf)|(refine Aa WV ?_;rintro _ rfl;conv=>whnf)|(refine kB ?_))
 rfl
theorem bsP {l:List GP} {nn:Bool} {x:(List UInt8)} (hl:l.length<2^62) (hi:Inc Op.bytesLess GP.key l):Ag (Ac tab) 200 [.sl nn (vs GP.av l),.str x,.fn 201 []] (fun v=>∃(i:Nat) (b:Bool),v=.BG [.int .i64 i,.bool b]∧AtK Op.bytesLess GP.key x l i∧(b=true↔∃y∈l,GP.key y=x)):=by
 have fin:∀i:Nat,AtK Op.bytesLess GP.key x l i→((∃ y∈l,GP.key y=x)↔∃h:i<l.length,GP.key l[i]=x):=by
  intro i h
  constructor
  ·intro hf
   obtain⟨h1,h2,_⟩:=h.found Ai hi hf
   exact⟨h1,h2⟩
  ·rintro⟨h1,h2⟩
   exact⟨_,List.getElem_mem h1,h2⟩
 refine Ad rfl rfl ?_
 (conv=>whnf);repeat' (first|(refine kA ?_;conv=>whnf)|(refine Br.mk (fun hc=>?_) fun hc=>?_<;>first|exact hc.elim|conv=>whnf)  |(refine kB ?_))
 refine Af (fun m env s=>∃(i j:Nat),m=j-i∧i≤j∧j≤l.length∧env=[(0,.sl nn (vs GP.av l)),(1,.str x),(2,.fn 201 []),(8,.int .i64 l.length),(9,.int .i64 i),(10,.int .i64 j)]∧s=⟨[],0⟩∧
  (∀ k (h:k<l.length),k<i→Op.bytesLess (GP.key l[k]) x=true)∧(∀ k (h:k<l.length),j≤k→Op.bytesLess (GP.key l[k]) x=false)) ?_ _ _ _ ⟨0,l.length,rfl,by omega,by omega,by simp,rfl,fun k _ h=>absurd h (by omega),fun k h1 h=>absurd h (by omega)⟩
 rintro _ _ _ ⟨i,j,rfl,hij,hj,rfl,rfl,h1,h2⟩
 refine⟨rfl,?_⟩
 have lo:∀{q:Nat} (hq:q<l.length),Op.bytesLess (GP.key l[q]) x=true→∀k (h:k<l.length),k<q+1→Op.bytesLess (GP.key l[k]) x=true:=fun{q} hq hm k hk hlt=>by
  rcases Nat.lt_or_ge k q with h|h
  ·exact(Ai).tr _ _ _ (hi.get h hq) hm
  ·obtain rfl:k=q:=by omega
   exact hm
 have up:∀{q:Nat} (hq:q<l.length),Op.bytesLess (GP.key l[q]) x=false→∀k (h:k<l.length),q≤k→Op.bytesLess (GP.key l[k]) x=false:=fun{q} hq hm k hk hle=>by
  rcases Nat.lt_or_ge q k with h|h
  ·cases h3:Op.bytesLess (GP.key l[k]) x
   ·rfl
   ·have:=(Ai).tr _ _ _ (hi.get h hk) h3
    rw[hm]at this;cases this
  ·obtain rfl:k=q:=by omega
   exact hm
 (conv=>whnf);repeat' (first|(refine Abl (i+j) (by omega) (by omega) ?_;conv=>whnf)|(apply BK;(· exact Ahi _);conv=>whnf)|(refine Aa AvR ?_;rintro _ rfl;conv=>whnf)|(refine kA ?_;conv=>whnf)|(refine Br.mk (fun hc=>?_) fun hc=>?_<;>first|exact hc.elim|conv=>whnf)|(refine kB ?_))
 all_goals first
  |exact again.mk ⟨_,by omega,(i+j) / 2+1,j,rfl,by omega,hj,rfl,rfl,lo (by omega) (Atk hc),h2⟩
  |exact again.mk ⟨_,by omega,i,(i+j) / 2,rfl,by omega,by omega,rfl,rfl,h1,up (by omega) (ApS hc)⟩
  |skip
 all_goals
  obtain rfl:i=j:=by omega
  have ha:AtK Op.bytesLess GP.key x l i:=⟨by omega,h1,h2⟩
  have hf:=fin i ha
  first
   |exact⟨i,_,rfl,ha,fun _=>hf.2 ⟨by omega,Va.1 hc⟩,fun _=>rfl⟩
   |exact⟨i,_,rfl,ha,fun h=>(by cases h),fun h=>(by obtain⟨_,e⟩:=hf.1 h;exact absurd (Va.2 e) hc)⟩
   |exact⟨i,_,rfl,ha,fun h=>(by cases h),fun h=>by obtain⟨e,_⟩:=hf.1 h;omega⟩
set_option maxHeartbeats 1000000 in
theorem Abb {P:List GP} {nn:Bool} {key:List UInt8} {v:GV} (hP:P.length≤100000) (hI:Inc Op.bytesLess GP.key P) (hv:v.ok) (hn:¬isNull v):Ag (Ac tab) 124 [.sl nn (vs GP.av P),.str key,v.av] (· =.BG [.sl true (vs GP.av (A8 Op.bytesLess GP.key ⟨key,v⟩ P)),.bool (decide ((A8 Op.bytesLess GP.key ⟨key,v⟩ P).length≤16))]):=by
 have h0:Ag (Ac tab) 122 [v.av] (· =.bool false):=by have:=AgE hv;rw[decide_eq_false hn]at this;exact this
 refine Ad rfl rfl ?_
 (conv=>whnf);repeat' (first  |(refine kA ?_;conv=>whnf)|(refine Br.mk (fun hc=>?_) fun hc=>?_<;>first|exact hc.elim|conv=>whnf)|(refine kB ?_))
 refine Af (fun m env s=>∃(i c go k:Nat) (b d:Bool) (r:List GP),m=P.length-i∧i≤P.length∧k=r.length∧r.length≤i+1∧(b=false→d=false)∧(d=false→r=P.take i∧∀y∈P.take i,Op.bytesLess y.key key=true)∧(d=true→r=A8 Op.bytesLess GP.key ⟨key,v⟩ (P.take i)∧∀y∈P.drop i,Op.bytesLess key y.key=true)∧env=[(0,.sl nn (vs GP.av P)),(1,.str key),(5,.ref 0 0 0 0),(8,.own 1 go 0 k),(9,.bool d),(10,.int .i64 i)]∧
  s=⟨[.arr 0 5 true true [v.av],.arr go 6 b true (vs GP.av r)],c⟩) ?_ _ _ _ ⟨0,_,_,0,_,_,[],rfl,by omega,rfl,by simp,fun _=>rfl,fun _=>⟨rfl,by simp⟩,fun h=>Bool.noConfusion h,rfl,rfl⟩
 rintro _ _ _ ⟨i,c,go,k,b,d,r,rfl,hi,hk,hl,hb,hd,ht,rfl,rfl⟩
 refine⟨rfl,?_⟩
 subst hk
 by_cases hlt:i<P.length
 ·have hs:=List.take_succ_eq_append_getElem hlt
  have hab:∀y∈P.drop (i+1),Op.bytesLess (P[i]).key y.key=true:=fun y hy=>by
   obtain⟨j,hj,rfl⟩:=List.mem_drop_iff_getElem.1 hy
   exact hI.get (show i<i+1+j by omega) (by omega)
  have htk:∀{R:GP→Prop},(∀ y∈P.take i,R y)→R P[i]→∀y∈P.take (i+1),R y:=fun{R} h1 h2 y hy=>by
   rw[hs]at hy
   rcases List.mem_append.1 hy with hy|hy
   ·exact h1 y hy
   ·obtain rfl:=List.mem_singleton.1 hy;exact h2
  cases d
  ·obtain⟨rfl,hlo⟩:=hd rfl
   (conv=>whnf);repeat' (first|(refine Aa h0 ?_;rintro _ rfl;conv=>whnf)|(refine Dt (x:=(⟨key,v⟩:GP)) Uf (by simp) (by simp;omega) ?_;conv=>whnf)|(refine Dt (x:=P[i]) Uf (by simp) (by simp;omega) ?_;conv=>whnf)|(refine kA ?_;conv=>whnf)|(refine Br.mk (fun hc=>?_) fun hc=>?_<;>first|exact hc.elim|conv=>whnf)|(refine kB ?_))
   all_goals first
        |(exfalso;have e1:Op.bytesLess (P[i]).key key=true:=by assumption
          rw[hc,Ai.Oc]at e1;cases e1)
        |(have hgt:Op.bytesLess key (P[i]).key=true:=by
           cases hx:Op.bytesLess key (P[i]).key with
           |true=>rfl
           |false=>exact absurd (Ai.tot _ _ (by assumption) hx) hc
          exact again.mk ⟨_,by omega,i+1,_,_,_,_,_,P.take i++[⟨key,v⟩]++[P[i]],rfl,by omega,by simp,by rw[List.length_append,List.length_append,List.length_singleton,List.length_singleton,List.length_take];omega,fun h=>Bool.noConfusion h,fun h=>Bool.noConfusion h,fun _=>⟨by rw[hs,Pq Ai hgt,LW Ai hlo],fun y hy=>Ai.tr _ _ _ hgt (hab y hy)⟩,rfl,rfl⟩)
        |exact again.mk ⟨_,by omega,i+1,_,_,_,_,_,P.take i++[⟨key,v⟩],rfl,by omega,by simp,by rw[List.length_append,List.length_singleton,List.length_take];omega,fun h=>Bool.noConfusion h,fun h=>Bool.noConfusion h,fun _=>⟨by rw[hs,Tj Ai hlo hc],fun y hy=>by have:=hab y hy;rw[hc]at this;exact this⟩,rfl,rfl⟩
        |exact again.mk ⟨_,by omega,i+1,_,_,_,_,_,P.take i++[P[i]],rfl,by omega,by rw[List.length_append,List.length_singleton],by rw[List.length_append,List.length_singleton,List.length_take];omega,fun _=>rfl,fun _=>⟨hs.symm,htk hlo (by assumption)⟩,fun h=>Bool.noConfusion h,rfl,rfl⟩
  ·obtain⟨rfl,hhi⟩:=ht rfl
   have hgt:Op.bytesLess key (P[i]).key=true:=hhi _ (by rw[List.drop_eq_getElem_cons hlt];exact List.mem_cons_self)
   (conv=>whnf);repeat' (first|(refine Dt (x:=P[i]) Uf (by simp) (by simp;omega) ?_;conv=>whnf)|(refine kA ?_;conv=>whnf)|(refine Br.mk (fun hc=>?_) fun hc=>?_<;>first|exact hc.elim|conv=>whnf)|(refine kB ?_))
   all_goals first
        |(exfalso;rw[hc,Ai.Oc]at hgt;cases hgt)
        |exact again.mk ⟨_,by omega,i+1,_,_,_,_,_,A8 Op.bytesLess GP.key ⟨key,v⟩ (P.take i)++[P[i]],rfl,by omega,by simp,by simp;omega,fun h=>Bool.noConfusion h,fun h=>Bool.noConfusion h,fun _=>⟨by rw[hs,Pq Ai hgt],fun y hy=>Ai.tr _ _ _ hgt (hab y hy)⟩,rfl,rfl⟩
 ·obtain rfl:i=P.length:=by omega
  rw[List.take_length]at hd ht
  cases d
  ·obtain⟨rfl,hlo⟩:=hd rfl
   rw[LW Ai (x:=(⟨key,v⟩:GP)) hlo]
   (conv=>whnf);repeat' (first|(refine Aa h0 ?_;rintro _ rfl;conv=>whnf)|(refine Dt (x:=(⟨key,v⟩:GP)) Uf (by simp) (by simp;omega) ?_;conv=>whnf)|(refine kA ?_;conv=>whnf)|(refine Br.mk (fun hc=>?_) fun hc=>?_<;>first|exact hc.elim|conv=>whnf)|(refine kB ?_))
   all_goals first|(exfalso;omega)|(refine congrArg (fun z=>AV.BG [AV.sl true _,AV.bool z]) ?_;symm;first|exact decide_eq_true (by rw[List.length_append,List.length_singleton];omega)|exact decide_eq_false (by rw[List.length_append,List.length_singleton];omega))
  ·obtain⟨rfl,_⟩:=ht rfl
   cases b
   ·exact absurd (hb rfl) Bool.noConfusion
   (conv=>whnf);repeat' (first  |(refine kA ?_;conv=>whnf)|(refine Br.mk (fun hc=>?_) fun hc=>?_<;>first|exact hc.elim|conv=>whnf)|(refine kB ?_))
   all_goals first|(exfalso;omega)|exact congrArg (fun z=>AV.BG [AV.sl true (vs GP.av (A8 Op.bytesLess GP.key ⟨key,v⟩ P)),AV.bool z]) (by first|rfl|(simp;omega))
section
variable {α κ:Type} {lt:κ→κ→Bool} {key:α→κ}
theorem Yc {k:κ} {y:α} {L:List α} (hs:Ov lt) (h:lt k (key y)=true):Cc lt key k (L++[y])=Cc lt key k L++[y]:=by
 have h1:lt (key y) k=false:=by
  cases hb:lt (key y) k with
  |false=>rfl
  |true=>have:=hs.tr _ _ _ h hb;rw[hs.Oc]at this;cases this
 simp[Cc,below,above,List.filter_append,h,h1]
theorem VX {k:κ} {L:List α} (hs:Ov lt) (h:∀y∈L,lt (key y) k=true):Cc lt key k L=L:=by
 have e1:below lt key k L=L:=filter_all h
 have e2:above lt key k L=[]:=filter_none fun y hy=>by
  cases hb:lt k (key y)with
  |false=>rfl
  |true=>have:=hs.tr _ _ _ hb (h y hy);rw[hs.Oc]at this;cases this
 rw[Cc,e1,e2,List.append_nil]
theorem Ya {k:κ} {y:α} {L:List α} (hs:Ov lt) (h:∀y∈L,lt (key y) k=true) (e:key y=k):Cc lt key k (L++[y])=L:=by
 have h1:lt (key y) k=false:=by rw[e];exact hs.Oc _
 have h2:lt k (key y)=false:=by rw[e];exact hs.Oc _
 have:=VX hs h
 simp only[Cc,below,above]at this
 simp[Cc,below,above,List.filter_append,h1,h2,this]
end
set_option maxHeartbeats 1000000 in
theorem Aba {P:List GP} {nn:Bool} {key:List UInt8} {v:GV} (hP:P.length≤100000) (hI:Inc Op.bytesLess GP.key P) (hv:v.ok) (hn:isNull v):Ag (Ac tab) 124 [.sl nn (vs GP.av P),.str key,v.av] (fun w=>∃b,(b=false→Cc Op.bytesLess GP.key key P=[])∧w=.BG [.sl b (vs GP.av (Cc Op.bytesLess GP.key key P)),.bool (decide ((Cc Op.bytesLess GP.key key P).length≤16))]):=by
 have h0:Ag (Ac tab) 122 [v.av] (· =.bool true):=by have:=AgE hv;rw[decide_eq_true hn]at this;exact this
 refine Ad rfl rfl ?_
 (conv=>whnf);repeat' (first  |(refine kA ?_;conv=>whnf)|(refine Br.mk (fun hc=>?_) fun hc=>?_<;>first|exact hc.elim|conv=>whnf)|(refine kB ?_))
 refine Af (fun m env s=>∃(i c go k:Nat) (b d:Bool) (r:List GP),m=P.length-i∧i≤P.length∧k=r.length∧r.length≤i+1∧(b=false→r=[])∧(d=false→r=P.take i∧∀y∈P.take i,Op.bytesLess y.key key=true)∧(d=true→r=Cc Op.bytesLess GP.key key (P.take i)∧∀y∈P.drop i,Op.bytesLess key y.key=true)∧env=[(0,.sl nn (vs GP.av P)),(1,.str key),(5,.ref 0 0 0 0),(8,.own 1 go 0 k),(9,.bool d),(10,.int .i64 i)]∧
  s=⟨[.arr 0 5 true true [v.av],.arr go 6 b true (vs GP.av r)],c⟩) ?_ _ _ _ ⟨0,_,_,0,_,_,[],rfl,by omega,rfl,by simp,fun _=>rfl,fun _=>⟨rfl,by simp⟩,fun h=>Bool.noConfusion h,rfl,rfl⟩
 rintro _ _ _ ⟨i,c,go,k,b,d,r,rfl,hi,hk,hl,hb,hd,ht,rfl,rfl⟩
 refine⟨rfl,?_⟩
 subst hk
 by_cases hlt:i<P.length
 ·have hs:=List.take_succ_eq_append_getElem hlt
  have hab:∀y∈P.drop (i+1),Op.bytesLess (P[i]).key y.key=true:=fun y hy=>by
   obtain⟨j,hj,rfl⟩:=List.mem_drop_iff_getElem.1 hy
   exact hI.get (show i<i+1+j by omega) (by omega)
  have htk:∀{R:GP→Prop},(∀ y∈P.take i,R y)→R P[i]→∀y∈P.take (i+1),R y:=fun{R} h1 h2 y hy=>by
   rw[hs]at hy
   rcases List.mem_append.1 hy with hy|hy
   ·exact h1 y hy
   ·obtain rfl:=List.mem_singleton.1 hy;exact h2
  cases d
  ·obtain⟨rfl,hlo⟩:=hd rfl
   (conv=>whnf);repeat' (first|(refine Aa h0 ?_;rintro _ rfl;conv=>whnf)|(refine Dt (x:=P[i]) Uf (by simp) (by simp;omega) ?_;conv=>whnf)|(refine kA ?_;conv=>whnf)|(refine Br.mk (fun hc=>?_) fun hc=>?_<;>first|exact hc.elim|conv=>whnf)|(refine kB ?_))
   all_goals first
        |(exfalso;have e1:Op.bytesLess (P[i]).key key=true:=by assumption
          rw[hc,Ai.Oc]at e1;cases e1)
        |(have hgt:Op.bytesLess key (P[i]).key=true:=by
           cases hx:Op.bytesLess key (P[i]).key with
           |true=>rfl
           |false=>exact absurd (Ai.tot _ _ (by assumption) hx) hc
          exact again.mk ⟨_,by omega,i+1,_,_,_,_,_,P.take i++[P[i]],rfl,by omega,by rw[List.length_append,List.length_singleton],by rw[List.length_append,List.length_singleton,List.length_take];omega,fun h=>Bool.noConfusion h,fun h=>Bool.noConfusion h,fun _=>⟨by rw[hs,Yc Ai hgt,VX Ai hlo],fun y hy=>Ai.tr _ _ _ hgt (hab y hy)⟩,rfl,rfl⟩)
        |exact again.mk ⟨_,by omega,i+1,_,_,_,_,_,P.take i,rfl,by omega,rfl,by rw[List.length_take];omega,hb,fun h=>Bool.noConfusion h,fun _=>⟨by rw[hs,Ya Ai hlo hc],fun y hy=>by have:=hab y hy;rw[hc]at this;exact this⟩,rfl,rfl⟩
        |exact again.mk ⟨_,by omega,i+1,_,_,_,_,_,P.take i++[P[i]],rfl,by omega,by rw[List.length_append,List.length_singleton],by rw[List.length_append,List.length_singleton,List.length_take];omega,fun h=>Bool.noConfusion h,fun _=>⟨hs.symm,htk hlo (by assumption)⟩,fun h=>Bool.noConfusion h,rfl,rfl⟩
  ·obtain⟨rfl,hhi⟩:=ht rfl
   have hgt:Op.bytesLess key (P[i]).key=true:=hhi _ (by rw[List.drop_eq_getElem_cons hlt];exact List.mem_cons_self)
   (conv=>whnf);repeat' (first|(refine Dt (x:=P[i]) Uf (by simp) (by simp;omega) ?_;conv=>whnf)|(refine kA ?_;conv=>whnf)|(refine Br.mk (fun hc=>?_) fun hc=>?_<;>first|exact hc.elim|conv=>whnf)|(refine kB ?_))
   all_goals first
        |(exfalso;rw[hc,Ai.Oc]at hgt;cases hgt)
        |exact again.mk ⟨_,by omega,i+1,_,_,_,_,_,Cc Op.bytesLess GP.key key (P.take i)++[P[i]],rfl,by omega,by simp,by simp;omega,fun h=>Bool.noConfusion h,fun h=>Bool.noConfusion h,fun _=>⟨by rw[hs,Yc Ai hgt],fun y hy=>Ai.tr _ _ _ hgt (hab y hy)⟩,rfl,rfl⟩
 ·obtain rfl:i=P.length:=by omega
  rw[List.take_length]at hd ht
  cases d
  ·obtain⟨rfl,hlo⟩:=hd rfl
   rw[VX Ai hlo]
   (conv=>whnf);repeat' (first|(refine Aa h0 ?_;rintro _ rfl;conv=>whnf)|(refine kA ?_;conv=>whnf)|(refine Br.mk (fun hc=>?_) fun hc=>?_<;>first|exact hc.elim|conv=>whnf)|(refine kB ?_))
   all_goals first|(exfalso;omega)|(refine ⟨b,hb,congrArg (fun z=>AV.BG [AV.sl b _,AV.bool z]) ?_⟩;symm;first|exact decide_eq_true (by omega)|exact decide_eq_false (by omega))
  ·obtain⟨rfl,_⟩:=ht rfl
   (conv=>whnf);repeat' (first  |(refine kA ?_;conv=>whnf)|(refine Br.mk (fun hc=>?_) fun hc=>?_<;>first|exact hc.elim|conv=>whnf)|(refine kB ?_))
   all_goals first|(exfalso;omega)|(refine ⟨b,hb,congrArg (fun z=>AV.BG [AV.sl b _,AV.bool z]) ?_⟩;symm;first|exact decide_eq_true (by omega)|exact decide_eq_false (by omega))
theorem Ag2 {l:List (List UInt8)} {nn:Bool} {x:List UInt8} (hl:l.length≤100000) (hI:Inc Op.bytesLess id l):Ag (Ac tab) 128 [.sl nn (vs .str l),.str x] (fun v=>∃b,(b=false→Cc Op.bytesLess id x l=[])∧v=.sl b (vs .str (Cc Op.bytesLess id x l))):=by
 rw[OL Ai hI]
 refine Ad rfl rfl ?_
 (conv=>whnf);repeat' (first  |(refine kA ?_;conv=>whnf)|(refine Br.mk (fun hc=>?_) fun hc=>?_<;>first|exact hc.elim|conv=>whnf)|(refine kB ?_))
 refine Af (fun m env s=>∃(i c go k:Nat) (b:Bool) (r:List (List UInt8)),m=l.length-i∧i≤l.length∧k=r.length∧r.length≤i∧(b=false→r=[])∧r=(l.take i).filter (fun a=>decide (id a≠x))∧env=[(0,.sl nn (vs .str l)),(1,.str x),(5,.own 0 go 0 k),(6,.int .i64 i)]∧s=⟨[.arr go 1 b true (vs .str r)],c⟩) ?_ _ _ _ ⟨0,_,_,0,_,[],rfl,by omega,rfl,by simp,fun _=>rfl,by simp,rfl,rfl⟩
 rintro _ _ _ ⟨i,c,go,k,b,r,rfl,hi,hk,hr,hb,hx,rfl,rfl⟩
 refine⟨rfl,?_⟩
 by_cases hlt:i<l.length
 ·have hs:=List.take_succ_eq_append_getElem hlt
  (conv=>whnf);repeat' (first|(refine Dt (x:=l[i]) (fun _=>rfl) hk (by omega) ?_;conv=>whnf)|(refine kA ?_;conv=>whnf)|(refine Br.mk (fun hc=>?_) fun hc=>?_<;>first|exact hc.elim|conv=>whnf)|(refine kB ?_))
  ·exact again.mk ⟨_,by omega,i+1,_,_,_,_,r,rfl,by omega,hk,by omega,hb,by rw[hs,List.filter_append,←hx,List.filter_cons_of_neg (by simpa using hc),List.filter_nil,List.append_nil],rfl,rfl⟩
  ·exact again.mk ⟨_,by omega,i+1,_,_,_,_,r++[l[i]],rfl,by omega,by simp,by simp;omega,fun h=>Bool.noConfusion h,by rw[hs,List.filter_append,←hx,List.filter_cons_of_pos (by simpa using hc),List.filter_nil],rfl,rfl⟩
 ·subst hk
  rw[List.take_of_length_le (by omega)]at hx
  (conv=>whnf);repeat' (first  |(refine kA ?_;conv=>whnf)|(refine Br.mk (fun hc=>?_) fun hc=>?_<;>first|exact hc.elim|conv=>whnf)|(refine kB ?_))
  subst hx
  exact⟨b,hb,by first|rfl|(rw [uV])⟩
theorem Akz {l:List (List UInt8)} {nn:Bool} {x:List UInt8} (hl:l.length≤100000) (hI:Inc Op.bytesLess id l) (hx:x∉l):Ag (Ac tab) 127 [.sl nn (vs .str l),.str x] (· =.sl true (vs .str (A8 Op.bytesLess id x l))):=by
 have hfin:∀i,i≤l.length→(∀ j (h:j<l.length),j<i→Op.bytesLess l[j] x=true)→(∀ h:i<l.length,Op.bytesLess l[i] x=false)→l.take i++[x]++l.drop i=A8 Op.bytesLess id x l:=by
  intro i hi hlo hhi
  refine AtK.ins Ai ⟨hi,hlo,fun j hj hij=>?_⟩ (fun y hy e=>hx (by cases e;exact hy))
  rcases Nat.lt_or_ge i j with h1|h1
  ·have h2:=hI.get h1 hj
   cases h3:Op.bytesLess (id l[j]) (id x)with
   |false=>rfl
   |true=>have:=Ai.tr _ _ _ h2 h3;have h4:=hhi (by omega);exact absurd this (by rw[show Op.bytesLess (id l[i]) (id x)=false from h4];exact Bool.noConfusion)
  ·obtain rfl:i=j:=by omega
   exact hhi hj
 refine Ad rfl rfl ?_
 (conv=>whnf);repeat' (first  |(refine kA ?_;conv=>whnf)|(refine Br.mk (fun hc=>?_) fun hc=>?_<;>first|exact hc.elim|conv=>whnf)|(refine kB ?_))
 refine Af (fun m env s=>∃(i c go:Nat) (b:Bool),m=l.length-i∧i≤l.length∧(∀ j (h:j<l.length),j<i→Op.bytesLess l[j] x=true)∧env=[(0,.sl nn (vs .str l)),(1,.str x),(5,.own 0 go 0 0),(6,.int .i64 i)]∧s=⟨[.arr go 1 b true (vs .str [])],c⟩) ?_ _ _ _ ⟨0,_,_,_,rfl,by omega,fun j _ h=>absurd h (by omega),rfl,rfl⟩
 rintro _ _ _ ⟨i,c,go,b,rfl,hi,hlo,rfl,rfl⟩
 refine⟨rfl,?_⟩
 have h1:=hfin i hi hlo
 have hne:∀h:i<l.length,l[i]≠x:=fun h e=>hx (by rw[← e];exact List.getElem_mem h)
 (conv=>whnf);repeat' (first|((with_reducible show need _ _);refine need.mk ⟨by (try rw[lV]);omega,by(try rw[lV]);omega⟩ ?_;conv=>whnf)|((with_reducible show need _ _);refine need.mk (Ey AcH _) ?_;conv=>whnf)|((with_reducible show eqK _ _);apply BK;(· exact Ik _ _ _);conv=>whnf)|(refine AuQ rfl AcH (by first|rfl|(simp;done)|(simp;omega)) (by simp;omega) (by first|assumption|exact fun _=>rfl|exact fun h=>Bool.noConfusion h) ?_;intro b1 hb1;conv=>whnf)|(refine Dt (x:=x) AcH (by first|rfl|(simp;done)|(simp;omega)) (by simp;omega) ?_;conv=>whnf)|(refine kA ?_;conv=>whnf)|(refine Br.mk (fun hc=>?_) fun hc=>?_<;>first|exact hc.elim|conv=>whnf)|(refine kB ?_))
 all_goals first
  |exact again.mk ⟨_,by omega,i+1,_,_,_,rfl,by omega,fun j h hj=>by
        by_cases e:j=i
        ·subst e;assumption
        ·exact hlo j h (by omega),rfl,rfl⟩
  |(exfalso;exact hne (by omega) (by assumption))
  |(cases b1
    ·exact absurd (hb1 rfl) (by simp)
    ·rw[AkJ]
     refine congrArg (fun z=>AV.sl true (vs .str z)) ?_
     rw[← h1 (fun h=>by first|assumption|(exfalso;omega))]
     simp[List.take_of_length_le])
end AI
end Go.Proofs.YthnehejdkajjhaaGreatDoor
