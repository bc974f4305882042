/- change.Apply. The reference's Apply and ApplyAll are the program's, but for flags. A check does not look at flags: plain. An edge added; graphs alike but for flags. Plain. What a change does to ids and edges. Lists of pairs compared: slices.Equal, the reference's Same. ends. Update of the program. Update of the program: a change without ends. Update: the list where there are ends. Plain. Paths as values: their order, the program's and the reference's; sorting them in place: the order. A lookup among numbers that rise. -/
import Derived.Test.YtchcadfjbkkgmaaGreatDoorCMap
import Derived.Test.YtchcadfjbkkgmaaGreatDoorCMas
import Derived.Test.YtchcadfjbkkgmaaGreatDoorCMai
import Derived.Test.YtchcadfjbkkgmaaGreatDoorCMar
import Derived.Test.YtchcadfjbkkgmaaGreatDoorCMaf
import Derived.Test.YtchcadfjbkkgmaaGreatDoorCMaj
import Derived.Test.YtchcadfjbkkgmaaGreatDoorCMaq
import Derived.Test.YtchcadfjbkkgmaaGreatDoorCMag
import Derived.Test.YtchcadfjbkkgmaaGreatDoorCMak
import Derived.Test.YtchcadfjbkkgmaaGreatDoorCMah
set_option linter.unusedVariables false
set_option maxRecDepth 4000
namespace Go.Proofs.YtchcadfjbkkgmaaGreatDoor
namespace AI
noncomputable def Ak (g:GG) (c:GC):GG×Int:=if AB g≠0 then(Gm,AB g)else if(stepG g c).1≠0 then(Gm,(stepG g c).1)else((stepG g c).2,0)
theorem WG {g:GG} {c:GC}:(DV g [c]).1=(Ak g c).1∧(DV g [c]).2.2=(Ak g c).2:=by
 unfold DV Ak
 by_cases h:AB g=0
 ·rw[if_neg (fun k=>k h),if_neg (fun k=>k h)]
  unfold YP
  by_cases h2:(stepG g c).1=0
  ·rw[if_neg (fun k=>k h2),if_neg (fun k=>k h2)]
   exact⟨rfl,rfl⟩
  ·rw[if_pos h2,if_pos h2]
   exact⟨rfl,rfl⟩
 ·rw[if_pos h,if_pos h]
  exact⟨rfl,rfl⟩
set_option maxHeartbeats 4000000 in
theorem Z9 {g:GG} {c:GC} (hg:g.ok) (hc:c.ok):Af (Ad tab) 52 [g.av,c.av] (· =.Cb [(Ak g c).1.av,.int .i64 (Ak g c).2]):=by
 have hp:=AcR (L:=[c]) (nn:=true) hg (by simp) (by simpa using hc)
 rw[WG.1,WG.2]at hp
 generalize (Ak g c).1=h at hp ⊢
 generalize (Ak g c).2=e at hp ⊢
 generalize (DV g [c]).2.1=n at hp
 obtain⟨op,z,fr,to,nm,v⟩:=c
 refine Ac rfl rfl ?_
 show vC _ _ [(0,.agg [.sl g.nn (vs GN.av g.nodes),.sl g.en (vs GE.av g.edges),.int .i64 g.BA,.int .i64 g.BJ]),(1,.agg [.int .i64 op,.int .i64 z,.int .i64 fr,.int .i64 to,.str nm,.int .i64 v.k,.int .i64 v.n,.int .i64 v.d,.str v.s,.sl v.nn v.l])] _ _
 (conv=>whnf);repeat' (first|(refine Aa hp ?_;rintro _ rfl;conv=>whnf)|(refine kA ?_;conv=>whnf)|(refine Br.mk (fun hc=>?_) fun hc=>?_<;>first|exact hc.elim|conv=>whnf)|(refine kB ?_))
 all_goals first|rfl
theorem TB.Oj {g:GG} (h:TB g) {n:GN} (hm:∃m∈g.nodes,m.id=n.id):TB {g with nodes:=Ba Cc GN.id n g.nodes}:=
 ⟨fun x hx=>by
  rcases Bg Ag hx with rfl|hx
  ·obtain⟨m,hm,e⟩:=hm;have:=h.n m hm;rw[e]at this;exact this
  ·exact h.n x hx,h.e⟩
theorem TB.Xb {g:GG} (h:TB g) {n:GE} (hm:∃m∈g.edges,m.id=n.id):TB {g with edges:=Ba Cc GE.id n g.edges}:=
 ⟨h.n,fun x hx=>by
  rcases Bg Ag hx with rfl|hx
  ·obtain⟨m,hm,e⟩:=hm;have:=h.e m hm;rw[e]at this;exact this
  ·exact h.e x hx⟩
theorem max_lt {a b c:Int} (h:a<b):a<(if c>b then c else b):=by split<;>omega
theorem AfQ {a b c:Int} (h:a<c):a<(if c>b then c else b):=by split<;>omega
theorem TB.node {g:GG} (h:TB g) {c:GC}:TB (Bc g c).2:=by
 unfold Bc
 split
 ·split
  ·exact h
  split
  ·refine⟨fun x hx=>?_,h.e⟩
   rcases Bg Ag hx with rfl|hx
   ·exact AfQ (by show c.id<c.id+1;omega)
   ·exact max_lt (h.n x hx)
  ·exact h
 split
 ·exact h
 rename_i n hf
 obtain⟨hn,hz⟩:=DX hf
 split
 ·split
  ·exact h
  ·exact⟨fun x hx=>h.n x (Cj hx),h.e⟩
 split
 ·split
  ·exact h
  split
  ·exact h.Oj ⟨n,hn,rfl⟩
  ·exact h
 split
 ·split
  ·exact h.Oj ⟨n,hn,rfl⟩
  ·exact h
 split
 ·exact h.Oj ⟨n,hn,rfl⟩
 split
 ·exact h.Oj ⟨n,hn,rfl⟩
 ·exact h
theorem TB.edge {g:GG} (h:TB g) {c:GC}:TB (Bz g c).2:=by
 unfold Bz
 split
 ·split
  ·exact h
  split
  ·split
   ·refine⟨h.n,fun x hx=>?_⟩
    rcases Bg Ag hx with rfl|hx
    ·exact AfQ (by show c.id<c.id+1;omega)
    ·exact max_lt (h.e x hx)
   ·exact h
  ·exact h
 split
 ·exact h
 rename_i n hf
 obtain⟨hn,hz⟩:=DX hf
 split
 ·exact⟨h.n,fun x hx=>h.e x (Cj hx)⟩
 split
 ·exact h.Xb ⟨n,hn,rfl⟩
 split
 ·exact h.Xb ⟨n,hn,rfl⟩
 ·exact h
theorem TB.step {g:GG} (h:TB g) {c:GC}:TB (stepG g c).2:=by
 unfold stepG
 split
 ·exact h
 split
 ·exact h.node
 ·exact h.edge
theorem AmH {g:GG} (h:AB g=0):TB g:=by
 obtain⟨hf,hn,hN,hE⟩:=Jg h
 refine⟨fun n hm=>?_,fun n hm=>?_⟩
 ·obtain⟨i,hi,rfl⟩:=List.getElem_of_mem hm
  exact(KO hi (hN i hi)).2.2.1
 ·obtain⟨i,hi,rfl⟩:=List.getElem_of_mem hm
  exact(JG hi (hE i hi)).2.2.1
theorem PE:Gm.ok:=⟨by simp[Ln,Gm],fun _=>rfl,by simp[Gm],by simp[Ln,Gm],fun _=>rfl,by simp[Gm],by unfold I64 Gm;dsimp only;omega,by unfold I64 Gm;dsimp only;omega⟩
theorem AeJ {g:GG} {c:GC} (hg:g.ok) (hc:c.ok) (hN:g.nodes.length≤2900) (hE:g.edges.length≤2900):Af (Ad tab) 25 [g.av,c.av] (fun w=>∃h:GG,w=.Cb [h.av,.int .i64 (Ak g c).2]∧G5 h=G5 (Ak g c).1∧h.ok):=by
 have hck:=Aa6 hg
 by_cases h0:AB g=0
 ·have hs:=AmB hg hN hE (TL h0) (AmH h0) hc
  rw[h0]at hck
  refine Ac rfl rfl ?_
  (conv=>whnf);repeat' (first|(refine Aa hck ?_;rintro _ rfl;conv=>whnf)|(refine Aa hs ?_;rintro _ ⟨h,rfl,q1,q2⟩;conv=>whnf)|(refine kA ?_;conv=>whnf)|(refine Br.mk (fun hc=>?_) fun hc=>?_<;>first|exact hc.elim|conv=>whnf)|(refine kB ?_))
  have hG:Ak g c=if(stepG g c).1≠0 then(Gm,(stepG g c).1)else((stepG g c).2,0):=by unfold Ak;rw[if_neg (fun k=>k h0)]
  rw[hG]
  by_cases h1:(stepG g c).1=0
  ·rw[if_neg (fun k=>k h1),h1];exact⟨h,rfl,q1 h1⟩
  ·rw[if_pos h1];exact⟨h,rfl,by rw[q2 h1],by rw[q2 h1];exact PE⟩
 ·have hG:Ak g c=(Gm,AB g):=by unfold Ak;rw[if_pos h0]
  rw[hG]
  generalize AB g=e at hck h0 ⊢
  refine Ac rfl rfl ?_
  (conv=>whnf);repeat' (first|(refine Aa hck ?_;rintro _ rfl;conv=>whnf)|(refine kA ?_;conv=>whnf)|(refine Br.mk (fun hc=>?_) fun hc=>?_<;>first|exact hc.elim|conv=>whnf)|(refine kB ?_))
  all_goals first|exact⟨Gm,rfl,rfl,PE⟩|(exfalso;omega)
theorem AcG {N:List GN} {nx:Int} {i:Nat}:Ef (N.map Vk) nx i=Ef N nx i:=by
 unfold Ef
 simp only[List.getElem?_map]
 cases N[i]? with
 |none=>rfl
 |some n=>
  cases N[i-1]? with
  |none=>simp[Vk]
  |some k=>simp[Vk]
theorem AeG {N:List GN}:Gv (N.map Vk)=Gv N:=by unfold Gv;rw[List.map_map];rfl
theorem AcH {N:List GN} {E:List GE} {nx:Int} {i:Nat}:Eo (N.map Vk) (E.map Xc) nx i=Eo N E nx i:=by
 unfold Eo
 simp only[List.getElem?_map,AeG]
 cases E[i]? with
 |none=>rfl
 |some n=>
  cases E[i-1]? with
  |none=>simp[Xc]
  |some k=>simp[Xc]
theorem KP {g h:GG} (e:G5 g=G5 h):AB g=AB h:=by
 have key:∀g:GG,AB (G5 g)=AB g:=fun g=>by
  have e1:(G5 g).nodes.length=g.nodes.length:=List.length_map ..
  have e2:(G5 g).edges.length=g.edges.length:=List.length_map ..
  have n1:Ef (G5 g).nodes (G5 g).BA=Ef g.nodes g.BA:=funext fun i=>AcG
  have n2:Eo (G5 g).nodes (G5 g).edges (G5 g).BJ=Eo g.nodes g.edges g.BJ:=funext fun i=>AcH
  have f:FP (G5 g)↔FP g:=by unfold FP;rw[e1,e2]
  have x:GH (G5 g)↔GH g:=Iff.rfl
  unfold AB
  rw[n1,n2,e1,e2]
  simp only[f,x]
 rw[← key g,e,key h]
theorem Ie {g:GG} {c:GC} (h0:(Ak g c).2=0):AB g=0∧(stepG g c).1=0∧Ak g c=((stepG g c).2,0):=by
 by_cases hck:AB g=0
 ·unfold Ak at h0 ⊢
  rw[if_neg (fun k=>k hck)]at h0 ⊢
  by_cases h1:(stepG g c).1=0
  ·rw[if_neg (fun k=>k h1)];exact⟨hck,h1,rfl⟩
  ·rw[if_pos h1]at h0;exact absurd h0 h1
 ·unfold Ak at h0
  rw[if_pos hck]at h0
  exact absurd h0 hck
theorem CS {g:GG} {c:GC} (h0:(Ak g c).2=0):AB (Ak g c).1=0:=by
 obtain⟨hck,_,h2⟩:=Ie h0
 rw[h2]
 exact AjE (AeE (AeC hck))
theorem Ze {k:Int}:∀{l:List GE},l.Pairwise (fun a b=>a.id<b.id)→(∀ x∈l,x.id≠k)→l=below Cc GE.id k l++above Cc GE.id k l
 |[],_,_=>rfl
 |a::l,hi,hn=>by
  have hi':=List.pairwise_cons.1 hi
  have ha:=hn a (by simp)
  have ih:=Ze hi'.2 fun x hx=>hn x (List.mem_cons_of_mem _ hx)
  by_cases h:a.id<k
  ·have e1:below Cc GE.id k (a::l)=a::below Cc GE.id k l:=by
        unfold below
        rw[List.filter_cons,if_pos (show Cc a.id k=true by simp only[Cc,decide_eq_true_eq];exact h)]
   have e2:above Cc GE.id k (a::l)=above Cc GE.id k l:=by
        unfold above
        rw[List.filter_cons,if_neg (show ¬Cc k a.id=true by simp only[Cc,decide_eq_true_eq];omega)]
   rw[e1,e2,List.cons_append,←ih]
  ·have hk:k<a.id:=by omega
   have e1:below Cc GE.id k (a::l)=[]:=by
        unfold below
        rw[List.filter_eq_nil_iff]
        intro x hx
        simp only[Cc,decide_eq_true_eq]
        rcases List.mem_cons.1 hx with rfl|hx
        ·omega
        ·have:=hi'.1 x hx;omega
   have e2:above Cc GE.id k (a::l)=a::l:=by
        unfold above
        rw[List.filter_eq_self]
        intro x hx
        simp only[Cc,decide_eq_true_eq]
        rcases List.mem_cons.1 hx with rfl|hx
        ·omega
        ·have:=hi'.1 x hx;omega
   rw[e1,e2]
   rfl
theorem QH {g:GG} (h:AB g=0):g.edges.Pairwise fun a b=>a.id<b.id:=by
 have h1:(g.edges.map GE.id).Pairwise (· <·):=Zf fun i hi h0=>by
  have hi':i<g.edges.length:=by simpa using hi
  simp only[List.getElem_map]
  exact(JG hi' ((Jg h).2.2.2 i hi')).1 h0
 exact List.pairwise_map.1 h1
theorem add_edge {g:GG} {c:GC} (h6:c.op=6) (h0:(Ak g c).2=0):
 (Ak g c).1.nodes=g.nodes∧(c.fr∈Dc g∧c.to∈Dc g)∧∃A B,g.edges=A++B∧(Ak g c).1.edges=A++⟨c.id,c.fr,c.to,c.name,false,[]⟩::B:=by
 obtain⟨hck,h1,h2⟩:=Ie h0
 rw[h2]
 unfold stepG at h1 ⊢
 by_cases hk:IC c=0
 ·rw[if_neg (fun k=>k hk),if_neg (by omega)]at h1 ⊢
  unfold Bz at h1 ⊢
  rw[if_pos h6]at h1 ⊢
  by_cases hno:∃n∈g.edges,n.id=c.id
  ·rw[if_pos hno]at h1;cases h1
  rw[if_neg hno]at h1 ⊢
  by_cases hn:(∃ n∈g.nodes,n.id=c.fr)∧(∃ n∈g.nodes,n.id=c.to)
  ·rw[if_pos hn]at h1 ⊢
   by_cases hl:g.edges.length<4000
   ·rw[if_pos hl]
    obtain⟨⟨n1,hn1,e1⟩,⟨n2,hn2,e2⟩⟩:=hn
    have hsp:=Ze (k:=c.id) (QH hck) fun x hx e=>hno ⟨x,hx,e⟩
    refine⟨rfl,⟨List.mem_map.2 ⟨n1,hn1,e1⟩,List.mem_map.2 ⟨n2,hn2,e2⟩⟩,_,_,hsp,?_⟩
    show Ba Cc GE.id _ g.edges=_
    unfold Ba
    simp
   ·rw[if_neg hl]at h1;cases h1
  ·rw[if_neg hn]at h1;cases h1
 ·rw[if_pos hk]at h1;exact absurd h1 hk
theorem Acs {g:GG} {c:GC} {k:Int×GG} (hk:k=Bc g c) (h:k.1=0) (h1:c.op≠1) (h2:c.op≠2):∃n m':GN,n∈g.nodes∧m'.id=n.id∧k.2={g with nodes:=Ba Cc GN.id m' g.nodes}:=by
 unfold Bc at hk
 rw[if_neg h1]at hk
 split at hk
 ·subst hk;cases h
 ·rename_i n hf
  have hn:=List.mem_of_find?_eq_some hf
  rw[if_neg h2]at hk
  repeat' split at hk
  all_goals first
   |(subst hk;refine⟨n,_,hn,?_,rfl⟩;rfl)
   |(subst hk;cases h)
theorem Acu {g:GG} {c:GC} {k:Int×GG} (hk:k=Bz g c) (h:k.1=0) (h1:c.op≠6) (h2:c.op≠7):∃n m':GE,n∈g.edges∧(m'.id=n.id∧m'.fr=n.fr∧m'.to=n.to∧m'.ty=n.ty)∧k.2={g with edges:=Ba Cc GE.id m' g.edges}:=by
 unfold Bz at hk
 rw[if_neg h1]at hk
 split at hk
 ·subst hk;cases h
 ·rename_i n hf
  have hn:=List.mem_of_find?_eq_some hf
  rw[if_neg h2]at hk
  repeat' split at hk
  all_goals first
   |(subst hk;refine⟨n,_,hn,?_,rfl⟩;exact⟨rfl,rfl,rfl,rfl⟩)
   |(subst hk;cases h)
theorem AdR {g h:GG} (hg:AB g=0) (hh:AB h=0) (hm:∀x,x∈Dc h↔x∈Dc g):Dc h=Dc g:=
 He ((WI hh).imp fun h=>by omega) ((WI hg).imp fun h=>by omega) ((List.perm_ext_iff_of_nodup (LZ hh) (LZ hg)).2 hm)
theorem X7 {g:GG} (hg:AB g=0) {x y:GE} (hx:x∈g.edges) (hy:y∈g.edges) (h:x.id=y.id):x=y:=by
 obtain⟨i,hi,rfl⟩:=List.getElem_of_mem hx
 obtain⟨j,hj,rfl⟩:=List.getElem_of_mem hy
 have hp:=List.pairwise_iff_getElem.1 (QH hg)
 rcases Nat.lt_trichotomy i j with e|e|e
 ·have:=hp i j hi hj e;omega
 ·subst e;rfl
 ·have:=hp j i hj hi e;omega
theorem Abm {g:GG} {c:GC} (h6:c.op=6) (h0:(Ak g c).2=0):Dc (Ak g c).1=Dc g∧(c.fr∈Dc g∧c.to∈Dc g)∧∀x,x∈(Ak g c).1.edges↔x∈g.edges∨x=⟨c.id,c.fr,c.to,c.name,false,[]⟩:=by
 obtain⟨hN,hab,A,B,hE,hE'⟩:=add_edge h6 h0
 refine⟨by unfold Dc;rw[hN],hab,fun x=>?_⟩
 rw[hE,hE']
 simp only[List.mem_append,List.mem_cons]
 constructor
 ·rintro(h|h|h)
  ·exact .inl (.inl h)
  ·exact .inr h
  ·exact .inl (.inr h)
 ·rintro((h|h)|h)
  ·exact .inl h
  ·exact .inr (.inr h)
  ·exact .inr (.inl h)
theorem WJ {g:GG} {c:GC} (h7:c.op=7) (h0:(Ak g c).2=0):Dc (Ak g c).1=Dc g∧∃e,g.edges.find? (fun n=>decide (n.id=c.id))=some e∧e∈g.edges∧∀x,x∈g.edges↔x∈(Ak g c).1.edges∨x=e:=by
 obtain⟨hck,h1,h2⟩:=Ie h0
 rw[h2]
 unfold stepG at h1 ⊢
 by_cases hk:IC c=0
 ·rw[if_neg (fun k=>k hk),if_neg (by omega)]at h1 ⊢
  unfold Bz at h1 ⊢
  rw[if_neg (by omega)]at h1 ⊢
  cases hf:g.edges.find? (fun n=>decide (n.id=c.id))with
  |none=>rw[hf]at h1;cases h1
  |some e=>
   have he:=List.mem_of_find?_eq_some hf
   have hid:e.id=c.id:=by have:=List.find?_some hf;exact of_decide_eq_true this
   dsimp only
   rw[if_pos h7]
   refine⟨rfl,e,rfl,he,fun x=>?_⟩
   have hinc:Inc Cc GE.id g.edges:=(QH hck).imp fun h=>by simp only[Cc,decide_eq_true_eq];exact h
   show _↔x∈CP Cc GE.id c.id g.edges∨_
   rw[JC Ag hinc,List.mem_filter,decide_eq_true_iff]
   constructor
   ·intro hx
    by_cases hxc:x.id=c.id
    ·exact .inr (X7 hck hx he (hxc.trans hid.symm))
    ·exact .inl ⟨hx,hxc⟩
   ·rintro(h|rfl)
    ·exact h.1
    ·exact he
 ·rw[if_pos hk]at h1;exact absurd h1 hk
theorem ZQ {g:GG} {c:GC} (h1:c.op≠1) (h2:c.op≠2) (h6:c.op≠6) (h7:c.op≠7) (h0:(Ak g c).2=0) {types:List (List UInt8)}:Dc (Ak g c).1=Dc g∧G8 types (Ak g c).1.edges=G8 types g.edges:=by
 have hh:=CS h0
 obtain⟨hck,e1,e2⟩:=Ie h0
 rw[e2]at hh ⊢
 dsimp only at hh ⊢
 unfold stepG at e1 hh ⊢
 by_cases hk:IC c=0
 ·rw[if_neg (fun k=>k hk)]at e1 hh ⊢
  by_cases h5:c.op≤5
  ·rw[if_pos h5]at e1 hh ⊢
   obtain⟨n,m,hn,hm,hg⟩:=Acs rfl e1 h1 h2
   rw[hg]at hh ⊢
   refine⟨AdR hck hh fun x=>?_,rfl⟩
   unfold Dc
   rw[List.mem_map,List.mem_map]
   constructor
   ·rintro⟨y,hy,rfl⟩
    rcases(Hf Ag).1 hy with rfl|hy
    ·exact⟨n,hn,hm.symm⟩
    ·exact⟨y,hy.1,rfl⟩
   ·rintro⟨y,hy,rfl⟩
    by_cases e:y.id=m.id
    ·exact⟨m,(Hf Ag).2 (.inl rfl),e.symm⟩
    ·exact⟨y,(Hf Ag).2 (.inr ⟨hy,e⟩),rfl⟩
  ·rw[if_neg h5]at e1 hh ⊢
   obtain⟨n,m,hn,hm,hg⟩:=Acu rfl e1 h6 h7
   rw[hg]at hh ⊢
   refine⟨rfl,?_⟩
   have hj:∀x y,JN types (Ba Cc GE.id m g.edges) x y↔JN types g.edges x y:=fun x y=>by
     rw[Ej,Ej]
     constructor
     ·rintro⟨f,hf,hp⟩
      rcases(Hf Ag).1 hf with rfl|hf
      ·exact⟨n,hn,hm.2.1▸hp.1,hm.2.2.1▸hp.2.1,by have:=hp.2.2;unfold HT at this ⊢;rw[← hm.2.2.2];exact this⟩
      ·exact⟨f,hf.1,hp⟩
     ·rintro⟨f,hf,hp⟩
      by_cases e:f.id=m.id
      ·obtain rfl:=X7 hck hf hn (e.trans hm.1)
       exact⟨m,(Hf Ag).2 (.inl rfl),hm.2.1.trans hp.1,hm.2.2.1.trans hp.2.1,by have:=hp.2.2;unfold HT at this ⊢;rw[hm.2.2.2];exact this⟩
      ·exact⟨f,(Hf Ag).2 (.inr ⟨hf,e⟩),hp⟩
   funext x y
   unfold G8
   rw[decide_eq_decide]
   unfold NR
   rw[hj,hj]
 ·rw[if_pos hk]at e1;exact absurd e1 hk
noncomputable def BM (g:GG) (c:GC):GE:=if c.op=7 then(g.edges.find? (fun n=>decide (n.id=c.id))).getD ⟨0,0,0,[],false,[]⟩else⟨0,c.fr,c.to,c.name,false,[]⟩
theorem AdS {g:GG} {c:GC} {types:List (List UInt8)} (h1:c.op≠1) (h2:c.op≠2) (h6:c.op≠6) (h7:c.op≠7) (h0:(Ak g c).2=0):Ik types (Ak g c).1=Ik types g:=by
 obtain⟨e1,e2⟩:=ZQ (types:=types) h1 h2 h6 h7 h0
 rw[L6 (CS h0),L6 (Ie h0).1,e1,e2]
theorem ZR {g:GG} {c:GC} {types:List (List UInt8)} (h6:c.op=6) (h0:(Ak g c).2=0):
 (c.fr=c.to∨¬HT types (BM g c)∨G8 types g.edges c.fr c.to=true→Ik types (Ak g c).1=Ik types g)∧
 (c.fr≠c.to→HT types (BM g c)→G8 types g.edges c.fr c.to=false→G8 types (Ak g c).1.edges c.fr c.to=true∧∀C:List Int,C.length=((Dc g).filter fun x=>G8 types (Ak g c).1.edges c.fr x&&G8 types (Ak g c).1.edges c.to x).length→(∀ x∈Dc g,x∈C↔(G8 types (Ak g c).1.edges c.fr x&&G8 types (Ak g c).1.edges c.to x)=true)→Ik types (Ak g c).1=(Ik types g).map (stepT c.fr c.to C 1)):=by
 obtain⟨e1,⟨ha,hb⟩,hm⟩:=Abm h6 h0
 have hh:=CS h0
 have hck:=(Ie h0).1
 have hHT:HT types (BM g c)↔HT types (⟨c.id,c.fr,c.to,c.name,false,[]⟩:GE):=by
  unfold BM
  rw[if_neg (by omega)]
  exact Iff.rfl
 rw[L6 hh,L6 hck,e1]
 refine⟨fun h=>?_,fun hne ht hno=>?_⟩
 ·rw[Vu hm (h.imp_right fun h=>h.imp_left fun h=>fun k=>h (hHT.2 k))]
 ·have hO:=X8 hm hne (hHT.1 ht) hno
  refine⟨?_,fun C hC hCm=>?_⟩
  ·rw[hO.up];simp
  ·have hfl:((Dc g).filter fun x=>G8 types (Ak g c).1.edges c.fr x&&G8 types (Ak g c).1.edges c.to x)=(Dc g).filter fun x=>G8 types g.edges c.fr x&&G8 types g.edges c.to x:=List.filter_congr fun x _=>hO.com x
   rw[hfl]at hC
   exact(hO.tr (LZ hck) ha hb hC fun x hx=>by rw[hCm x hx];exact(hO.com x)▸Iff.rfl).1
theorem AdT {g:GG} {c:GC} {types:List (List UInt8)} (h7:c.op=7) (h0:(Ak g c).2=0):BM g c∈g.edges∧
 ((BM g c).fr=(BM g c).to∨¬HT types (BM g c)∨G8 types (Ak g c).1.edges (BM g c).fr (BM g c).to=true→Ik types (Ak g c).1=Ik types g)∧
 ((BM g c).fr≠(BM g c).to→HT types (BM g c)→G8 types (Ak g c).1.edges (BM g c).fr (BM g c).to=false→G8 types g.edges (BM g c).fr (BM g c).to=true∧∀C:List Int,C.length=((Dc g).filter fun x=>G8 types (Ak g c).1.edges (BM g c).fr x&&G8 types (Ak g c).1.edges (BM g c).to x).length→(∀ x∈Dc g,x∈C↔(G8 types (Ak g c).1.edges (BM g c).fr x&&G8 types (Ak g c).1.edges (BM g c).to x)=true)→Ik types (Ak g c).1=(Ik types g).map (stepT (BM g c).fr (BM g c).to C (-1))):=by
 obtain⟨e1,e,hf,he,hm⟩:=WJ h7 h0
 have hh:=CS h0
 have hck:=(Ie h0).1
 have hE:BM g c=e:=by unfold BM;rw[if_pos h7,hf];rfl
 rw[hE,L6 hh,L6 hck,e1]
 obtain⟨ha,hb⟩:=L8 hck e he
 refine⟨he,fun h=>?_,fun hne ht hno=>?_⟩
 ·rw[Vu hm h]
 ·have hO:=X8 hm hne ht hno
  refine⟨?_,fun C hC hCm=>?_⟩
  ·rw[hO.up];simp
  ·exact(hO.tr (LZ hck) ha hb hC hCm).2
theorem AhI (p q:Int×Int):bin .neq (.flat [.int,.int]) (.agg (List.take 2 (pv p).cells)) (.agg (List.take 2 (pv q).cells))=some (.bool (!decide (p=q))):=by
 obtain⟨p1,p2⟩:=p
 obtain⟨q1,q2⟩:=q
 by_cases h1:p1=q1
 ·by_cases h2:p2=q2
  ·simp[bin,UD,DR,CX,pv,AV.cells,h1,h2]
  ·have e2:(p2==q2)=false:=by simpa using h2
   simp[bin,UD,DR,CX,pv,AV.cells,h1,h2,e2]
 ·have e1:(p1==q1)=false:=by simpa using h1
  simp[bin,UD,DR,CX,pv,AV.cells,h1,e1]
theorem Ad9 {l m:List (Int×Int)} {b1 b2:Bool} (hl:l.length<2^40) (hm:m.length<2^40):Af (Ad tab) 51 [.sl b1 (vs pv l),.sl b2 (vs pv m)] (· =.bool (decide (l=m))):=by
 by_cases hlen:l.length=m.length
 ·refine Ac rfl rfl ?_
  (conv=>whnf);repeat' (first  |(refine kA ?_;conv=>whnf)|(refine Br.mk (fun hc=>?_) fun hc=>?_<;>first|exact hc.elim|conv=>whnf)|(refine kB ?_))
  all_goals first|(exfalso;omega)|skip
  refine Ap (fun z env s=>∃(i:Nat),z=l.length-i∧l.take i=m.take i∧env=[(0,.sl b1 (vs pv l)),(1,.sl b2 (vs pv m)),(12,.int .i64 l.length),(13,.int .i64 i)]∧s=⟨[],0⟩) ?_ _ _ _ ⟨0,rfl,rfl,rfl,rfl⟩
  rintro _ _ _ ⟨i,rfl,hx,rfl,rfl⟩
  refine⟨rfl,?_⟩
  by_cases hlt:i<l.length
  ·have hb:=AhI l[i] (m[i]'(by omega))
   by_cases he:l[i]=m[i]'(by omega)
   ·rw[decide_eq_true he]at hb
    (conv=>whnf);repeat' (first|(apply AL hb;conv=>whnf)|(refine kA ?_;conv=>whnf)|(refine Br.mk (fun hc=>?_) fun hc=>?_<;>first|exact hc.elim|conv=>whnf)|(refine kB ?_))
    all_goals first
     |(exfalso;omega)
     |exact again.mk ⟨_,by omega,i+1,rfl,by rw[List.take_succ_eq_append_getElem hlt,List.take_succ_eq_append_getElem (by omega),hx,he],rfl,rfl⟩
   ·rw[decide_eq_false he]at hb
    have hno:¬l=m:=fun e=>he (by subst e;rfl)
    (conv=>whnf);repeat' (first|(apply AL hb;conv=>whnf)|(refine kA ?_;conv=>whnf)|(refine Br.mk (fun hc=>?_) fun hc=>?_<;>first|exact hc.elim|conv=>whnf)|(refine kB ?_))
    all_goals first
     |(exfalso;omega)
     |exact AY hno
  ·have hyes:l=m:=by rw[List.take_of_length_le (by omega),List.take_of_length_le (by omega)]at hx;exact hx
   (conv=>whnf);repeat' (first  |(refine kA ?_;conv=>whnf)|(refine Br.mk (fun hc=>?_) fun hc=>?_<;>first|exact hc.elim|conv=>whnf)|(refine kB ?_))
   all_goals first
        |(exfalso;omega)
        |exact BD hyes
 ·have hno:¬l=m:=fun e=>hlen (by rw[e])
  refine Ac rfl rfl ?_
  (conv=>whnf);repeat' (first  |(refine kA ?_;conv=>whnf)|(refine Br.mk (fun hc=>?_) fun hc=>?_<;>first|exact hc.elim|conv=>whnf)|(refine kB ?_))
  all_goals first|(exfalso;omega)|exact AY hno
theorem AbD {l m:List (Int×Int)} {b1 b2:Bool} (hl:l.length<2^40) (hm:m.length<2^40):Af (Ad tab) 20 [.sl b1 (vs pv l),.sl b2 (vs pv m)] (· =.bool (decide (l=m))):=by
 by_cases hlen:l.length=m.length
 ·refine Ac rfl rfl ?_
  (conv=>whnf);repeat' (first  |(refine kA ?_;conv=>whnf)|(refine Br.mk (fun hc=>?_) fun hc=>?_<;>first|exact hc.elim|conv=>whnf)|(refine kB ?_))
  all_goals first|(exfalso;omega)|skip
  refine Ap (fun z env s=>∃(i:Nat),z=l.length-i∧l.take i=m.take i∧env=[(0,.sl b1 (vs pv l)),(1,.sl b2 (vs pv m)),(5,.int .i64 i)]∧s=⟨[],0⟩) ?_ _ _ _ ⟨0,rfl,rfl,rfl,rfl⟩
  rintro _ _ _ ⟨i,rfl,hx,rfl,rfl⟩
  refine⟨rfl,?_⟩
  by_cases hlt:i<l.length
  ·have hb:bin .neq (.flat [.int,.int]) (.agg (List.take 2 (pv l[i]).cells)) (.agg (List.take 2 (pv (m[i]'(by omega))).cells))=some (.bool (!decide (l[i]=m[i]'(by omega)))):=by
        generalize l[i]=p
        generalize m[i]'_=q
        obtain⟨p1,p2⟩:=p
        obtain⟨q1,q2⟩:=q
        by_cases h1:p1=q1
        ·by_cases h2:p2=q2
         ·simp[bin,UD,DR,CX,pv,AV.cells,h1,h2]
         ·have e2:(p2==q2)=false:=by simpa using h2
          simp[bin,UD,DR,CX,pv,AV.cells,h1,h2,e2]
        ·have e1:(p1==q1)=false:=by simpa using h1
         simp[bin,UD,DR,CX,pv,AV.cells,h1,e1]
   by_cases he:l[i]=m[i]'(by omega)
   ·rw[decide_eq_true he]at hb
    (conv=>whnf);repeat' (first|(apply AL hb;conv=>whnf)|(refine kA ?_;conv=>whnf)|(refine Br.mk (fun hc=>?_) fun hc=>?_<;>first|exact hc.elim|conv=>whnf)|(refine kB ?_))
    all_goals first
     |(exfalso;omega)
     |exact again.mk ⟨_,by omega,i+1,rfl,by rw[List.take_succ_eq_append_getElem hlt,List.take_succ_eq_append_getElem (by omega),hx,he],rfl,rfl⟩
   ·rw[decide_eq_false he]at hb
    have hno:¬l=m:=fun e=>he (by subst e;rfl)
    (conv=>whnf);repeat' (first|(apply AL hb;conv=>whnf)|(refine kA ?_;conv=>whnf)|(refine Br.mk (fun hc=>?_) fun hc=>?_<;>first|exact hc.elim|conv=>whnf)|(refine kB ?_))
    all_goals first
     |(exfalso;omega)
     |exact AY hno
  ·have hyes:l=m:=by rw[List.take_of_length_le (by omega),List.take_of_length_le (by omega)]at hx;exact hx
   (conv=>whnf);repeat' (first  |(refine kA ?_;conv=>whnf)|(refine Br.mk (fun hc=>?_) fun hc=>?_<;>first|exact hc.elim|conv=>whnf)|(refine kB ?_))
   all_goals first
        |(exfalso;omega)
        |exact BD hyes
 ·have hno:¬l=m:=fun e=>hlen (by rw[e])
  refine Ac rfl rfl ?_
  (conv=>whnf);repeat' (first  |(refine kA ?_;conv=>whnf)|(refine Br.mk (fun hc=>?_) fun hc=>?_<;>first|exact hc.elim|conv=>whnf)|(refine kB ?_))
  all_goals first|(exfalso;omega)|exact AY hno
def MG (types:List (List UInt8)) (g:GG) (c:GC):Prop:=(c.op=6∨c.op=7)∧(BM g c).fr≠(BM g c).to∧HT types (BM g c)
noncomputable instance (types:List (List UInt8)) (g:GG) (c:GC):Decidable (MG types g c):=Classical.propDecidable _
set_option maxHeartbeats 4000000 in
theorem AiC {g:GG} (hl:g.edges.length<2^63) (hgood:∀n∈g.edges,Rk n) {c:GC} (h7:c.op=7→∃e,g.edges.find? (fun n=>decide (n.id=c.id))=some e) {types:List (List UInt8)} {tn:Bool} (ht:types.length<2^63):
 Af (Ad tab) 54 [g.av,.sl tn (vs .str types),c.av] (fun v=>v=.Cb [.int .i64 (BM g c).fr,.int .i64 (BM g c).to,.bool (decide (MG types g c))]):=by
 by_cases o7:c.op=7
 ·obtain⟨e,he⟩:=h7 o7
  have hE:BM g c=e:=by unfold BM;rw[if_pos o7,he];rfl
  have pE:=AlP hl hgood (id:=c.id)
  have hR:MJ g.edges c.id=.Cb [e.av,.bool true]:=by
   unfold MJ isE
   rw[he]
  rw[hR]at pE
  have pT:=PZ (nn:=tn) (e:=e) ht
  rw[hE]
  by_cases hne:e.fr=e.to<;>by_cases hT:HT types e
  all_goals (
   first|rw[decide_eq_true hT]at pT|rw[decide_eq_false hT]at pT
   refine Ac rfl rfl ?_
   (conv=>whnf);repeat' (first|((first|refine Aa pE ?_|refine Aa pT ?_);rintro _ rfl;conv=>whnf)|(refine kA ?_;conv=>whnf)|(refine Br.mk (fun hc=>?_) fun hc=>?_<;>first|exact hc.elim|conv=>whnf)|(refine kB ?_)))
  all_goals first
   |exact congrArg (fun b=>AV.Cb [.int .i64 e.fr,.int .i64 e.to,.bool b]) (decide_eq_true (p:=MG types g c) ⟨.inr o7,by rw[hE];exact hne,by rw[hE];exact hT⟩).symm
   |exact congrArg (fun b=>AV.Cb [.int .i64 e.fr,.int .i64 e.to,.bool b]) (decide_eq_false (p:=MG types g c) (fun h=>by have h2:=h.2;rw[hE]at h2;first|exact h2.1 hne|exact hT h2.2)).symm
   |(exfalso;omega)
 ·have hE:BM g c=⟨0,c.fr,c.to,c.name,false,[]⟩:=by unfold BM;rw[if_neg o7]
  have pT:=PZ (nn:=tn) (e:=⟨0,c.fr,c.to,c.name,false,[]⟩) ht
  by_cases o6:c.op=6<;>by_cases hne:c.fr=c.to<;>by_cases hT:HT types (⟨0,c.fr,c.to,c.name,false,[]⟩:GE)
  all_goals (
   first|rw[decide_eq_true hT]at pT|rw[decide_eq_false hT]at pT
   rw[hE]
   refine Ac rfl rfl ?_
   (conv=>whnf);repeat' (first|(refine Aa pT ?_;rintro _ rfl;conv=>whnf)|(refine kA ?_;conv=>whnf)|(refine Br.mk (fun hc=>?_) fun hc=>?_<;>first|exact hc.elim|conv=>whnf)|(refine kB ?_)))
  all_goals first
   |exact congrArg (fun b=>AV.Cb [.int .i64 c.fr,.int .i64 c.to,.bool b]) (decide_eq_true (p:=MG types g c) ⟨.inl o6,by rw[hE];exact hne,by rw[hE];exact hT⟩).symm
   |exact congrArg (fun b=>AV.Cb [.int .i64 c.fr,.int .i64 c.to,.bool b]) (decide_eq_false (p:=MG types g c) (fun h=>by have h1:=h.1;have h2:=h.2;rw[hE]at h2;first|exact h2.1 hne|exact hT h2.2|exact h1.elim o6 o7)).symm
   |(exfalso;omega)
noncomputable def JE (types:List (List UInt8)) (g:GG):List (Int×Int):=if AB g=0 then Ik types g else[]
noncomputable def Sm (l:List (Int×Int)) (g:GG) (types:List (List UInt8)) (c:GC):Int:=if l≠JE types g then 19 else(Ak g c).2
noncomputable def J4 (l:List (Int×Int)) (g:GG) (types:List (List UInt8)) (c:GC):List (Int×Int):=if l≠JE types g then[]else if(Ak g c).2≠0 then[]else Ik types (Ak g c).1
theorem Z8 {g:GG} (hg:g.ok) (hN:g.nodes.length≤1000) (hE:g.edges.length≤1000) {types:List (List UInt8)} (ht:types.length<2^63) {tn:Bool}:∃b,(b=false→JE types g=[])∧Af (Ad Oh) 21 [g.av,.sl tn (vs .str types)] (· =.sl b (vs pv (JE types g))):=by
 have h:=AaI (q:=⟨g,tn,types⟩) ⟨hg,hN,hE,ht⟩
 unfold TQ.out at h
 unfold JE
 by_cases hck:AB g=0
 ·rw[if_pos hck]at h ⊢
  refine⟨_,fun e=>?_,h⟩
  have e:=of_decide_eq_false e
  dsimp only at e
  unfold Ik
  rw[List.eq_nil_of_length_eq_zero (show g.nodes.length=0 by omega)]
  rfl
 ·rw[if_neg hck]at h ⊢
  exact⟨_,fun _=>rfl,h⟩
set_option maxHeartbeats 8000000 in
theorem S9 {g:GG} {c:GC} (hg:g.ok) (hc:c.ok) (hN:g.nodes.length≤100) (hE:g.edges.length≤100) {types:List (List UInt8)} (ht:types.length<2^40) {tn ln:Bool} {l:List (Int×Int)} (hl:l.length<2^40)
 (hh:(Ak g c).1.ok∧(Ak g c).1.nodes.length≤200∧(Ak g c).1.edges.length≤200) (hcase:l≠JE types g∨(Ak g c).2≠0∨c.op=1∨c.op=2):
 Af (Ad Oh) 18 [.sl ln (vs pv l),g.av,.sl tn (vs .str types),c.av] (fun v=>∃b,(b=false→J4 l g types c=[])∧v=.Cb [.sl b (vs pv (J4 l g types c)),.int .i64 (Sm l g types c)]):=by
 obtain⟨b0,_,p1⟩:=Z8 (tn:=tn) hg (by omega) (by omega) (types:=types) (by omega)
 have htl:(JE types g).length<2^40:=by
  unfold JE
  split
  ·unfold Ik;rw[List.length_map];omega
  ·simp
 have p2:=(Ad9 (b1:=ln) (b2:=b0) hl htl).up Oi
 have p3:=(Z9 hg hc).up Oi
 unfold J4 Sm
 by_cases h1:l=JE types g
 case neg=>
  rw[decide_eq_false h1]at p2
  rw[if_pos h1,if_pos h1]
  refine Ac rfl rfl ?_
  (conv=>whnf);repeat' (first|((first|refine Aa p1 ?_|refine Aa p2 ?_);rintro _ rfl;conv=>whnf)|(refine kA ?_;conv=>whnf)|(refine Br.mk (fun hc=>?_) fun hc=>?_<;>first|exact hc.elim|conv=>whnf)|(refine kB ?_))
  all_goals first|exact⟨false,fun _=>rfl,rfl⟩|(exfalso;omega)
 rw[decide_eq_true h1]at p2
 rw[if_neg (not_not_intro h1),if_neg (not_not_intro h1)]
 by_cases h0:(Ak g c).2=0
 case neg=>
  rw[if_pos h0]
  generalize (Ak g c).2=e at p3 h0 ⊢
  generalize (Ak g c).1=h at p3
  refine Ac rfl rfl ?_
  (conv=>whnf);repeat' (first|((first|refine Aa p1 ?_|refine Aa p2 ?_|refine Aa p3 ?_);rintro _ rfl;conv=>whnf)|(refine kA ?_;conv=>whnf)|(refine Br.mk (fun hc=>?_) fun hc=>?_<;>first|exact hc.elim|conv=>whnf)|(refine kB ?_))
  all_goals first|exact⟨false,fun _=>rfl,rfl⟩|(exfalso;omega)
 rw[if_neg (not_not_intro h0)]
 have hop:c.op=1∨c.op=2:=by
  rcases hcase with h|h|h
  ·exact absurd h1 h
  ·exact absurd h0 h
  ·exact h
 have hck:=CS h0
 obtain⟨b4,hb4,p4⟩:=Z8 (tn:=tn) hh.1 (by omega) (by omega) (types:=types) (by omega)
 unfold JE at p4 hb4
 rw[if_pos hck]at p4 hb4
 rw[h0]at p3 ⊢
 generalize Ik types (Ak g c).1=W at p4 hb4 ⊢
 generalize (Ak g c).1=h at p3 p4
 rcases hop with hop|hop
 all_goals (
  refine Ac rfl rfl ?_
  (conv=>whnf);repeat' (first|((first|refine Aa p1 ?_|refine Aa p2 ?_|refine Aa p3 ?_|refine Aa p4 ?_);rintro _ rfl;conv=>whnf)|(refine kA ?_;conv=>whnf)|(refine Br.mk (fun hc=>?_) fun hc=>?_<;>first|exact hc.elim|conv=>whnf)|(refine kB ?_)))
 all_goals first|exact⟨b4,hb4,rfl⟩|(exfalso;omega)
theorem Afn {g:GG} {c:GC} {types:List (List UInt8)} (o1:c.op≠1) (o2:c.op≠2) (h0:(Ak g c).2=0) (hn:¬MG types g c):Ik types (Ak g c).1=Ik types g:=by
 by_cases o6:c.op=6
 ·refine(ZR o6 h0).1 ?_
  by_cases hne:c.fr=c.to
  ·exact .inl hne
  ·refine .inr (.inl fun ht=>hn ⟨.inl o6,?_,ht⟩)
   unfold BM
   rw[if_neg (by omega)]
   exact hne
 by_cases o7:c.op=7
 ·refine(AdT o7 h0).2.1 ?_
  by_cases hne:(BM g c).fr=(BM g c).to
  ·exact .inl hne
  ·exact .inr (.inl fun ht=>hn ⟨.inr o7,hne,ht⟩)
 ·exact AdS o1 o2 o6 o7 h0
theorem Abr {g:GG} {c:GC} (h0:(Ak g c).2=0) (o7:c.op=7):∃e,g.edges.find? (fun n=>decide (n.id=c.id))=some e:=by
 obtain⟨_,e,h,_⟩:=WJ o7 h0
 exact⟨e,h⟩
set_option maxHeartbeats 8000000 in
theorem AhA {g:GG} {c:GC} (hg:g.ok) (hc:c.ok) (hN:g.nodes.length≤100) (hE:g.edges.length≤100) (hgood:∀n∈g.edges,Rk n) {types:List (List UInt8)} (ht:types.length<2^40) {tn ln:Bool} {l:List (Int×Int)} (hln:ln=false→l=[])
 (h1:l=JE types g) (h0:(Ak g c).2=0) (o1:c.op≠1) (o2:c.op≠2) (hn:¬MG types g c):
 Af (Ad Oh) 18 [.sl ln (vs pv l),g.av,.sl tn (vs .str types),c.av] (fun v=>∃b,(b=false→J4 l g types c=[])∧v=.Cb [.sl b (vs pv (J4 l g types c)),.int .i64 (Sm l g types c)]):=by
 have hck:=(Ie h0).1
 obtain⟨b0,_,p1⟩:=Z8 (tn:=tn) hg (by omega) (by omega) (types:=types) (by omega)
 have hlt:l.length<2^40:=by
  rw[h1]
  unfold JE
  rw[if_pos hck]
  unfold Ik
  rw[List.length_map]
  omega
 have p2:=(Ad9 (b1:=ln) (b2:=b0) (l:=l) (m:=JE types g) hlt (by rw[← h1];exact hlt)).up Oi
 rw[decide_eq_true h1]at p2
 have p3:=(Z9 hg hc).up Oi
 have p5:=(AiC (tn:=tn) (c:=c) (types:=types) (by omega:g.edges.length<2^63) hgood (Abr h0) (by omega)).up Oi
 rw[decide_eq_false hn]at p5
 have hW:Ik types (Ak g c).1=l:=by
  rw[Afn o1 o2 h0 hn,h1]
  unfold JE
  rw[if_pos hck]
 unfold J4 Sm
 rw[if_neg (not_not_intro h1),if_neg (not_not_intro h1),if_neg (not_not_intro h0),hW,h0]
 rw[h0]at p3
 generalize (Ak g c).1=h at p3
 have VH:sub (vs pv l) 0 l.length=vs pv l:=uV
 cases ln
 ·obtain rfl:=hln rfl
  refine Ac rfl rfl ?_
  (conv=>whnf);repeat' (first|((first|refine Aa p1 ?_|refine Aa p2 ?_|refine Aa p3 ?_|refine Aa p5 ?_);rintro _ rfl;conv=>whnf)|(refine PD rfl (Aem.up Oi) ?_;conv=>whnf)|(refine kA ?_;conv=>whnf)|(refine Br.mk (fun hc=>?_) fun hc=>?_<;>first|exact hc.elim|conv=>whnf)|(refine kB ?_))
  all_goals first|exact⟨false,fun _=>rfl,rfl⟩|(exfalso;omega)
 ·have pc:=(Yd (l:=l) hlt).up Oi
  refine Ac rfl rfl ?_
  (conv=>whnf);repeat' (first|((first|refine Aa p1 ?_|refine Aa p2 ?_|refine Aa p3 ?_|refine Aa p5 ?_);rintro _ rfl;conv=>whnf)|(refine Aec rfl pc ?_;conv=>whnf)|(refine kA ?_;conv=>whnf)|(refine Br.mk (fun hc=>?_) fun hc=>?_<;>first|exact hc.elim|conv=>whnf)|(refine kB ?_))
  all_goals first|(refine ⟨true,fun h=>Bool.noConfusion h,?_⟩;rw[lV,VH];rfl)|(exfalso;omega)
theorem Aeb {types:List (List UInt8)} {es:List GE} {v x:Int}:EH (JD types es v) x=if G8 types es v x then some true else none:=by
 cases h:G8 types es v x
 ·rw[if_neg (by simp)]
  exact Hu.2 fun hx=>by
   have:=OE.1 hx
   unfold G8 at h
   exact of_decide_eq_false h this
 ·rw[if_pos rfl]
  obtain⟨p,hp,rfl⟩:=List.mem_map.1 (OE.2 (of_decide_eq_true h))
  rw[Me Pv.nd hp,Pv.tt p hp]
theorem Yw {types:List (List UInt8)} {es fs:List GE} (h:∀x∈es,x∈fs) {a b:Int} (hn:G8 types es a b=true):G8 types fs a b=true:=by
 unfold G8 at hn ⊢
 have:=of_decide_eq_true hn
 refine decide_eq_true ⟨this.1,?_⟩
 rw[Ej,Ej]
 have h2:=this.2
 rw[Ej,Ej]at h2
 exact h2.imp (fun ⟨e,he,hp⟩=>⟨e,h e he,hp⟩) (fun ⟨e,he,hp⟩=>⟨e,h e he,hp⟩)
noncomputable def LK (types:List (List UInt8)) (h:GG) (a b:Int):List Int:=Hw (ER (JD types h.edges a) (JD types h.edges b))
theorem Yx {types:List (List UInt8)} {h:GG} (hck:AB h=0) {a b:Int}:(LK types h a b).length=((Dc h).filter fun x=>G8 types h.edges a x&&G8 types h.edges b x).length:=by
 unfold LK
 rw[(EW _).length_eq]
 have:=WR (types:=types) hck (v:=a) (x:=b)
 unfold LU at this
 rw[this,NK,List.filter_map,List.length_map]
 rfl
theorem Yy {types:List (List UInt8)} {h:GG} {a b x:Int}:x∈LK types h a b↔(G8 types h.edges a x&&G8 types h.edges b x)=true:=by
 unfold LK
 rw[(EW _).mem_iff]
 unfold ER
 rw[List.mem_map,Bool.and_eq_true]
 constructor
 ·rintro⟨p,hp,rfl⟩
  obtain⟨h1,h2⟩:=List.mem_filter.1 hp
  rw[Z4]at h2
  exact⟨decide_eq_true (OE.1 (List.mem_map.2 ⟨p,h1,rfl⟩)),h2⟩
 ·rintro⟨h1,h2⟩
  obtain⟨p,hp,rfl⟩:=List.mem_map.1 (OE.2 (of_decide_eq_true h1))
  exact⟨p,List.mem_filter.2 ⟨hp,by rw[Z4];exact h2⟩,rfl⟩
def Aed (x y:Bool):Int:=if !x&&y then 1 else if x&&!y then -1 else 0
theorem Uf {a b:Int} {C:List Int} {l:List (Int×Int)}:l.map (stepT a b C 0)=l:=by
 have:∀p,stepT a b C 0 p=p:=fun p=>by
  unfold stepT
  split
  ·exact Prod.ext rfl (by show p.2+0*_=p.2;omega)
  ·split
   ·exact Prod.ext rfl (by show p.2+0=p.2;omega)
   ·rfl
 rw[List.map_congr_left fun p _=>this p,List.map_id'']
 exact fun _=>rfl
theorem AgI {g:GG} {c:GC} {types:List (List UInt8)} (h0:(Ak g c).2=0) (hn:MG types g c):
 (BM g c).fr∈Dc g∧(BM g c).to∈Dc g∧Dc (Ak g c).1=Dc g∧
 Ik types (Ak g c).1=(Ik types g).map (stepT (BM g c).fr (BM g c).to (LK types (Ak g c).1 (BM g c).fr (BM g c).to) (Aed (G8 types g.edges (BM g c).fr (BM g c).to) (G8 types (Ak g c).1.edges (BM g c).fr (BM g c).to))):=by
 have hh:=CS h0
 have hck:=(Ie h0).1
 obtain⟨hop,hne,ht⟩:=hn
 rcases hop with o6|o7
 ·have hE:(BM g c).fr=c.fr∧(BM g c).to=c.to:=by unfold BM;rw[if_neg (by omega)];exact⟨rfl,rfl⟩
  obtain⟨e1,⟨ha,hb⟩,hm⟩:=Abm o6 h0
  rw[hE.1,hE.2]at hne ⊢
  refine⟨ha,hb,e1,?_⟩
  have hw:=Yx (types:=types) hh (a:=c.fr) (b:=c.to)
  rw[e1]at hw
  cases hx:G8 types g.edges c.fr c.to
  ·obtain⟨h1,h2⟩:=(ZR o6 h0).2 hne ht hx
   rw[h1]
   exact h2 _ hw fun x _=>Yy
  ·rw[Yw (fun x hx=>(hm x).2 (.inl hx)) hx]
   show _=(Ik types g).map (stepT _ _ _ 0)
   rw[Uf]
   exact(ZR o6 h0).1 (.inr (.inr hx))
 ·obtain⟨e1,e,hf,he,hm⟩:=WJ o7 h0
  have hE:BM g c=e:=by unfold BM;rw[if_pos o7,hf];rfl
  obtain⟨ha,hb⟩:=L8 hck e he
  obtain⟨_,t1,t2⟩:=AdT (types:=types) o7 h0
  rw[hE]at hne ht t1 t2 ⊢
  refine⟨ha,hb,e1,?_⟩
  have hw:=Yx (types:=types) hh (a:=e.fr) (b:=e.to)
  rw[e1]at hw
  cases hx:G8 types (Ak g c).1.edges e.fr e.to
  ·obtain⟨h1,h2⟩:=t2 hne ht hx
   rw[h1]
   exact h2 _ hw fun x _=>Yy
  ·rw[Yw (fun x hx=>(hm x).2 (.inl hx)) hx]
   show _=(Ik types g).map (stepT _ _ _ 0)
   rw[Uf]
   exact t1 (.inr (.inr hx))
section
open Go.Sort
def gvK (k:Int) (n:Int):GV:=⟨k,n,0,[],false,[]⟩
def wav (k:Int):List Int→List AV
 |[]=>[]
 |n::l=>(gvK k n).av::wav (11-k) l
def gvP (l:List Int):GV:=⟨7,0,0,[],true,wav 5 l⟩
theorem Abs:∀{l m:List Int} {k:Int},wav k l=wav k m→l=m
 |[],[],_,_=>rfl
 |[],b::m,_,h=>by simp[wav]at h
 |a::l,[],_,h=>by simp[wav]at h
 |a::l,b::m,k,h=>by
  simp only[wav,List.cons.injEq]at h
  obtain⟨h1,h2⟩:=h
  have e:a=b:=by
   simp only[GV.av,gvK,AV.agg.injEq,List.cons.injEq,AV.int.injEq]at h1
   exact h1.2.1.2
  rw[e,Abs h2]
structure Wk where
 l:List Int
 h:l.length≤1000∧∀n∈l,I64 n
def Wk.av (x:Wk):AV:=(gvP x.l).av
instance:DecidableEq Wk:=fun x y=>if h:x.l=y.l then isTrue (by obtain⟨l,hl⟩:=x;obtain⟨m,hm⟩:=y;obtain rfl:l=m:=h;rfl)else isFalse fun e=>h (by rw[e])
instance:Inhabited Wk:=⟨⟨[],by simp,by simp⟩⟩
theorem Wk.Aaa {x y:Wk} (h:x.av=y.av):x=y:=by
 obtain⟨l,hl⟩:=x;obtain⟨m,hm⟩:=y
 simp only[Wk.av,gvP,GV.av,AV.agg.injEq,List.cons.injEq,AV.sl.injEq]at h
 have:=Abs h.2.2.2.2.1.2
 subst this
 rfl
noncomputable def Aek (x:Wk):Int:=if VV 8 (gvP x.l)then((x.l.length / 2:Nat):Int)else -1
noncomputable def Alz (x y:Wk):Int:=TF (LV (Aek x) (Aek y)) (Ajx 2 (gvP x.l) (gvP y.l))
noncomputable def AnY (x y:Wk):Bool:=decide (Alz x y<0)
attribute [irreducible] AnY Alz Aek
end
theorem Akn {x:Int}:Af (Ad tab) 67 [.int .i64 x] (· =.bool false):=by
 refine Ac rfl rfl ?_
 (conv=>whnf);repeat' (first  |(refine kA ?_;conv=>whnf)|(refine Br.mk (fun hc=>?_) fun hc=>?_<;>first|exact hc.elim|conv=>whnf)|(refine kB ?_))
 all_goals first|rfl|(exfalso;simp_all)
theorem bsC {l:List Int} {nn:Bool} {x:Int} (hl:l.length<2^62) (hi:l.Pairwise (· <·)):Af (Ad tab) 29 [.sl nn (vs (.int .i64) l),.int .i64 x] (fun v=>∃i:Int,v=.Cb [.int .i64 i,.bool (decide (x∈l))]):=by
 have hg:∀{a b:Nat} (ha:a<l.length) (hb:b<l.length),a<b→l[a]<l[b]:=fun{a b} ha hb hab=>List.pairwise_iff_getElem.1 hi a b ha hb hab
 refine Ac rfl rfl ?_
 (conv=>whnf);repeat' (first  |(refine kA ?_;conv=>whnf)|(refine Br.mk (fun hc=>?_) fun hc=>?_<;>first|exact hc.elim|conv=>whnf)|(refine kB ?_))
 all_goals first|(exfalso;omega)|skip
 refine Ap (fun m env s=>∃(i j:Nat),m=j-i∧i≤j∧j≤l.length∧env=[(0,.sl nn (vs (.int .i64) l)),(1,.int .i64 x),(6,.int .i64 l.length),(7,.int .i64 i),(8,.int .i64 j)]∧s=⟨[],0⟩∧
  (∀ k (h:k<l.length),k<i→l[k]<x)∧(∀ k (h:k<l.length),j≤k→¬l[k]<x)) ?_ _ _ _ ⟨0,l.length,rfl,by omega,by omega,rfl,rfl,fun k _ h=>absurd h (by omega),fun k h1 h=>absurd h (by omega)⟩
 rintro _ _ _ ⟨i,j,rfl,hij,hj,rfl,rfl,h1,h2⟩
 refine⟨rfl,?_⟩
 by_cases hlt:i<j
 ·have hq:(i+j) / 2<l.length:=by omega
  have hp:=@Amq l[(i+j) / 2] x
  by_cases hb:l[(i+j) / 2]<x
  ·rw[show ltJ l[(i+j) / 2] x=true from AbZ.2 hb]at hp
   (conv=>whnf);repeat' (first|(refine Ua (i+j) (by omega) (by omega) ?_;conv=>whnf)|(apply CB;(· exact Aaj _);conv=>whnf)|(refine Aa hp ?_;rintro _ rfl;conv=>whnf)|(refine kA ?_;conv=>whnf)|(refine Br.mk (fun hc=>?_) fun hc=>?_<;>first|exact hc.elim|conv=>whnf)|(refine kB ?_))
   all_goals first
        |(exfalso;omega)
        |exact again.mk ⟨_,by omega,(i+j) / 2+1,j,rfl,by omega,hj,rfl,rfl,fun k hk hlt=>by
          rcases Nat.lt_or_ge k ((i+j) / 2)with q|q
          ·have:=hg hk hq q;omega
          ·obtain rfl:k=(i+j) / 2:=by omega
           exact hb,h2⟩
  ·rw[show ltJ l[(i+j) / 2] x=false from AaQ.2 hb]at hp
   (conv=>whnf);repeat' (first|(refine Ua (i+j) (by omega) (by omega) ?_;conv=>whnf)|(apply CB;(· exact Aaj _);conv=>whnf)|(refine Aa hp ?_;rintro _ rfl;conv=>whnf)|(refine kA ?_;conv=>whnf)|(refine Br.mk (fun hc=>?_) fun hc=>?_<;>first|exact hc.elim|conv=>whnf)|(refine kB ?_))
   all_goals first
        |(exfalso;omega)
        |exact again.mk ⟨_,by omega,i,(i+j) / 2,rfl,by omega,by omega,rfl,rfl,h1,fun k hk hle=>by
          rcases Nat.lt_or_ge ((i+j) / 2) k with q|q
          ·have:=hg hq hk q;omega
          ·obtain rfl:k=(i+j) / 2:=by omega
           exact hb⟩
 ·obtain rfl:i=j:=by omega
  have hmem:x∈l↔∃h:i<l.length,l[i]=x:=by
   constructor
   ·intro hx
    obtain⟨k,hk,e⟩:=List.getElem_of_mem hx
    have a1:¬k<i:=fun h=>by have:=h1 k hk h;omega
    rcases Nat.lt_or_ge i k with q|q
    ·have b1:=h2 i (by omega) (Nat.le_refl _)
     have b2:=hg (a:=i) (by omega) hk q
     omega
    ·obtain rfl:k=i:=by omega
     exact⟨hk,e⟩
   ·rintro⟨h,rfl⟩
    exact List.getElem_mem h
  by_cases hil:i<l.length
  ·by_cases he:l[i]=x
   ·rw[decide_eq_true (hmem.2 ⟨hil,he⟩)]
    (conv=>whnf);repeat' (first|(refine Aa Akn ?_;rintro _ rfl;conv=>whnf)|(refine kA ?_;conv=>whnf)|(refine Br.mk (fun hc=>?_) fun hc=>?_<;>first|exact hc.elim|conv=>whnf)|(refine kB ?_))
    all_goals first
     |exact⟨_,rfl⟩
     |(exfalso;omega)
     |exact absurd he (by assumption)
   ·rw[decide_eq_false (fun h=>by obtain⟨_,e⟩:=hmem.1 h;exact he e)]
    (conv=>whnf);repeat' (first|(refine Aa Akn ?_;rintro _ rfl;conv=>whnf)|(refine kA ?_;conv=>whnf)|(refine Br.mk (fun hc=>?_) fun hc=>?_<;>first|exact hc.elim|conv=>whnf)|(refine kB ?_))
    all_goals first
     |exact⟨_,rfl⟩
     |(exfalso;omega)
     |exact absurd (by assumption) he
  ·rw[decide_eq_false (fun h=>by obtain⟨h,_⟩:=hmem.1 h;exact hil h)]
   (conv=>whnf);repeat' (first|(refine Aa Akn ?_;rintro _ rfl;conv=>whnf)|(refine kA ?_;conv=>whnf)|(refine Br.mk (fun hc=>?_) fun hc=>?_<;>first|exact hc.elim|conv=>whnf)|(refine kB ?_))
   all_goals first
        |exact⟨_,rfl⟩
        |(exfalso;omega)
end AI
end Go.Proofs.YtchcadfjbkkgmaaGreatDoor
