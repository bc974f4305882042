/- What a check finds, said in one; a step keeps graphs valid: plain. Scripts to graphs that are alike are alike: plain. A step keeps graphs in good form; their lengths: plain. Strings in a list. Strings in a list: the reference. The reference's Steps answers. One more at the end of a list that is put into: what a reference's loop does, step by step. The reference puts nodes into a graph, exactly. The reference: lists of labels with one more, one less. The reference's null, lists of properties and labels. The reference sets a property, exactly. Taking out, at the end of a list. The reference takes a property away (set to null), exactly. The reference: lists of labels with one more, one less, exactly. -/
import Derived.Test.YthnehejdkajjhaaGreatDoorKMam
import Derived.Test.YthnehejdkajjhaaGreatDoorKMak
import Derived.Test.YthnehejdkajjhaaGreatDoorKMae
import Derived.Test.YthnehejdkajjhaaGreatDoorBMaa
import Derived.Test.YthnehejdkajjhaaGreatDoorKMah
import Derived.Test.YthnehejdkajjhaaGreatDoorKMai
set_option linter.unusedVariables false
set_option maxRecDepth 4000
namespace Go.Proofs.YthnehejdkajjhaaGreatDoor
namespace AI
theorem Aay {l:List (List UInt8)} (h:Inc Op.bytesLess id l):rises l:=fun j hj=>by
 have:=h.get (show j<j+1 by omega) hj
 simp only[id]at this
 rw[Bool.or_eq_false_iff]
 constructor
 ·cases hb:Op.bytesLess l[j+1] l[j]with
  |false=>rfl
  |true=>have:=Ai.tr _ _ _ this hb;rw[Ai.Oc]at this;cases this
 ·rw[beq_eq_false_iff_ne]
  intro e
  rw[e,Ai.Oc]at this;cases this
theorem Acj {P:List GP} (h:Inc Op.bytesLess GP.key P):rises (keysOf P):=Aay (by have:=EI h;unfold Inc;exact this)
theorem Aaz {L:List (List UInt8)} {P:List GP} (h1:L.length≤8) (h2:P.length≤16) (h3:allNames L) (h4:allNames (keysOf P)) (h5:Inc Op.bytesLess id L) (h6:Inc Op.bytesLess GP.key P) (h7:allPlain P):DV L P=0:=by
 unfold DV
 rw[if_neg (by omega),if_neg (fun h=>h ⟨h3,h4⟩),if_neg (fun h=>h ⟨Aay h5,Acj h6⟩),if_neg (fun h=>h h7)]
structure Chk (g:GG):Prop where
 vg:VG g
 nx:Hy g
 n:∀n∈g.nodes,n.id<g.BF
 e:∀n∈g.edges,n.id<g.BA
theorem Zk {g:GG} (h:AZ g=0):Chk g:=by
 have hv:=Aqj h
 obtain⟨hf,hn,hN,hE⟩:=LU h
 refine⟨hv,hn,fun n hm=>?_,fun n hm=>?_⟩
 ·obtain⟨i,hi,rfl⟩:=List.getElem_of_mem hm
  exact(KP hi (hN i hi)).2.2.1
 ·obtain⟨i,hi,rfl⟩:=List.getElem_of_mem hm
  exact(MZ hi (hE i hi)).2.2.1
theorem Tc {g:GG} (h:Chk g):AZ g=0:=by
 have a:=h.vg.ask
 have hn:∀k,k<g.nodes.length→ER g.nodes g.BF k=0:=fun k hk=>by
  have hm:=List.getElem_mem hk
  have v:=h.vg.n _ hm
  rw[AaB hk (fun h0 h1=>by have:=a.iN.get (show k-1<k by omega) hk;simp only[BX,decide_eq_true_eq]at this;omega) (by have:=v.id.1;have:=h.n _ hm;omega)]
  exact Aaz v.a.lL v.a.lP v.nl v.nk v.a.iL v.a.iP v.pl
 have he:∀k,k<g.edges.length→EX g.nodes g.edges g.BA k=0:=fun k hk=>by
  have hm:=List.getElem_mem hk
  have v:=h.vg.e _ hm
  obtain⟨⟨p,hp,e1⟩,⟨q,hq,e2⟩⟩:=h.vg.ends _ hm
  rw[AaC hk (fun h0 h1=>by have:=a.iE.get (show k-1<k by omega) hk;simp only[BX,decide_eq_true_eq]at this;omega) (by have:=v.id.1;have:=h.e _ hm;omega) ⟨List.mem_map.2 ⟨p,hp,e1⟩,List.mem_map.2 ⟨q,hq,e2⟩⟩ v.ty]
  exact Aaz (by simp) v.a.lP (fun s hs=>by cases hs) v.nk List.Pairwise.nil v.a.iP v.pl
 have:=Ack ⟨a.lN,a.lE⟩ h.nx hn he
 simp only[AV.int.injEq,true_and]at this
 exact this.symm
theorem Chk.Lu {g:GG} (h:Chk g) {m:GN} (hm:VN m) (hx:∃n∈g.nodes,n.id=m.id):Chk {g with nodes:=A8 BX GN.id m g.nodes}:=by
 obtain⟨n0,hn0,e0⟩:=hx
 refine⟨⟨h.vg.ask.Lu hm.a ⟨n0,hn0,e0⟩,fun n hn=>?_,h.vg.e,fun e he=>?_⟩,h.nx,fun n hn=>?_,h.e⟩
 ·rcases Bq Ak hn with rfl|hn
  ·exact hm
  ·exact h.vg.n n hn
 ·have hk:∀z,(∃ n∈g.nodes,n.id=z)→∃n∈A8 BX GN.id m g.nodes,n.id=z:=fun z ⟨n,hn,e⟩=>by
   by_cases q:z=m.id
   ·exact⟨m,(KT Ak).2 (.inl rfl),q.symm⟩
   ·exact⟨n,(KT Ak).2 (.inr ⟨hn,by rw[show GN.id n=z from e];exact q⟩),e⟩
  exact⟨hk _ (h.vg.ends e he).1,hk _ (h.vg.ends e he).2⟩
 ·rcases Bq Ak hn with rfl|hn
  ·have:=h.n n0 hn0;rw[e0]at this;exact this
  ·exact h.n n hn
theorem Chk.Tn {g:GG} (h:Chk g) {m n0:GE} (hm:VE m) (hn0:n0∈g.edges) (e0:n0.id=m.id) (e1:n0.fr=m.fr) (e2:n0.to=m.to):Chk {g with edges:=A8 BX GE.id m g.edges}:=by
 refine⟨⟨h.vg.ask.Tn hm.a ⟨n0,hn0,e0⟩,h.vg.n,fun n hn=>?_,fun e he=>?_⟩,h.nx,h.n,fun n hn=>?_⟩
 ·rcases Bq Ak hn with rfl|hn
  ·exact hm
  ·exact h.vg.e n hn
 ·rcases Bq Ak he with rfl|he
  ·rw[← e1,←e2];exact h.vg.ends n0 hn0
  ·exact h.vg.ends e he
 ·rcases Bq Ak hn with rfl|hn
  ·have:=h.e n0 hn0;rw[e0]at this;exact this
  ·exact h.e n hn
theorem Ae3 {x:List UInt8} {l:List (List UInt8)} (hx:isName x) (hl:allNames l):allNames (A8 Op.bytesLess id x l):=fun s hs=>by
 rcases Bq Ai hs with rfl|hs
 ·exact hx
 ·exact hl s hs
theorem AaD {x:GP} {l:List GP} (hx:isName x.key) (hl:allNames (keysOf l)):allNames (keysOf (A8 Op.bytesLess GP.key x l)):=fun s hs=>by
 obtain⟨p,hp,rfl⟩:=List.mem_map.1 hs
 rcases Bq Ai hp with rfl|hp
 ·exact hx
 ·exact hl _ (List.mem_map_of_mem hp)
theorem AaE {x:List UInt8} {l:List GP} (hl:allNames (keysOf l)):allNames (keysOf (Cc Op.bytesLess GP.key x l)):=fun s hs=>by
 obtain⟨p,hp,rfl⟩:=List.mem_map.1 hs
 exact hl _ (List.mem_map_of_mem (Ce hp))
theorem Yb {x:GP} {l:List GP} (hx:DW x.v) (hl:allPlain l):allPlain (A8 Op.bytesLess GP.key x l):=fun p hp=>by
 rcases Bq Ai hp with rfl|hp
 ·exact hx
 ·exact hl p hp
theorem AaF {a b:Int} (ha:Jw a) (hb:1≤b∧b≤1000001):1≤(if a+1>b then a+1 else b)∧(if a+1>b then a+1 else b)≤1000001:=by unfold Jw at ha;split<;>omega
theorem Amh {a b c:Int} (h:a<b):a<(if c>b then c else b):=by split<;>omega
theorem Agt {a b c:Int} (h:a<c):a<(if c>b then c else b):=by split<;>omega
theorem VK {g:GG} {c:GC} (h:Chk g):Chk (stepG g c).2:=by
 have ha:=h.vg.ask
 have hstep:=ha.step (c:=c)
 unfold stepG at hstep ⊢
 split
 ·exact h
 rename_i hk
 rw[if_neg hk]at hstep
 obtain⟨hop,hid,hnm,h6,hvl⟩:=Ae1 (Classical.not_not.1 hk)
 split
 ·rename_i h5
  rw[if_pos h5]at hstep
  unfold Ba at hstep ⊢
  split
  ·rename_i h1
   rw[if_pos h1]at hstep
   split
   ·exact h
   rename_i hx
   rw[if_neg hx]at hstep
   split
   ·rename_i hl
    rw[if_pos hl]at hstep
    have hb:VN ⟨c.id,false,[],false,[]⟩:=⟨hid,fun s hs=>(by cases hs),fun s hs=>(by cases hs),fun s hs=>(by cases hs),⟨List.Pairwise.nil,by simp,List.Pairwise.nil,by simp⟩⟩
    refine⟨⟨hstep,fun n hn=>?_,h.vg.e,fun e he=>?_⟩,?_,fun n hn=>?_,h.e⟩
    ·rcases Bq Ak hn with rfl|hn
     ·exact hb
     ·exact h.vg.n n hn
    ·have hkp:∀z,(∃ n∈g.nodes,n.id=z)→∃n∈A8 BX GN.id ⟨c.id,false,[],false,[]⟩ g.nodes,n.id=z:=fun z ⟨n,hn,e⟩=>⟨n,(KT Ak).2 (.inr ⟨hn,fun q=>hx ⟨n,hn,q⟩⟩),e⟩
     exact⟨hkp _ (h.vg.ends e he).1,hkp _ (h.vg.ends e he).2⟩
    ·have:=AaF hid ⟨h.nx.1,h.nx.2.1⟩
     exact⟨this.1,this.2,h.nx.2.2⟩
    ·rcases Bq Ak hn with rfl|hn
     ·exact Agt (by show c.id<c.id+1;omega)
     ·exact Amh (h.n n hn)
   ·exact h
  rename_i hop1
  split
  ·exact h
  rename_i n hf
  obtain⟨hn,hz⟩:=Et hf
  have hz:=of_decide_eq_true hz
  have hv:=h.vg.n n hn
  rw[if_neg hop1,hf]at hstep
  split
  ·split
   ·exact h
   rename_i hu
   refine⟨⟨?_,fun n hn=>h.vg.n n (Ce hn),h.vg.e,fun e he=>?_⟩,h.nx,fun n hn=>h.n n (Ce hn),h.e⟩
   ·exact{ha with lN:=Nat.le_trans (Dz Ak) ha.lN,iN:=EJ Ak ha.iN,aN:=fun m hm=>ha.aN m (Ce hm)}
   ·have hkp:∀z,z≠c.id→(∃ n∈g.nodes,n.id=z)→∃n∈Cc BX GN.id c.id g.nodes,n.id=z:=fun z q ⟨n,hn,e⟩=>⟨n,(Na Ak).2 ⟨hn,by rw[show GN.id n=z from e];exact q⟩,e⟩
    exact⟨hkp _ (fun q=>hu ⟨e,he,.inl q⟩) (h.vg.ends e he).1,hkp _ (fun q=>hu ⟨e,he,.inr q⟩) (h.vg.ends e he).2⟩
  split
  ·rename_i h3
   split
   ·exact h
   split
   ·exact h.Lu ⟨hv.id,Ae3 (hnm (.inl h3)) hv.nl,hv.nk,hv.pl,⟨EK Ai hv.a.iL,Nat.le_trans (EC Ai) (by omega),hv.a.iP,hv.a.lP⟩⟩ ⟨n,hn,rfl⟩
   ·exact h
  split
  ·split
   ·exact h.Lu ⟨hv.id,fun s hs=>hv.nl s (Ce hs),hv.nk,hv.pl,⟨EJ Ai hv.a.iL,Nat.le_trans (Dz Ai) hv.a.lL,hv.a.iP,hv.a.lP⟩⟩ ⟨n,hn,rfl⟩
   ·exact h
  split
  ·exact h.Lu ⟨hv.id,hv.nl,AaE hv.nk,fun p hp=>hv.pl p (Ce hp),⟨hv.a.iL,hv.a.lL,EJ Ai hv.a.iP,Nat.le_trans (Dz Ai) hv.a.lP⟩⟩ ⟨n,hn,rfl⟩
  split
  ·rename_i h2 h3 h4 hnn hx
   have h5:c.op=5:=by omega
   refine h.Lu ⟨hv.id,hv.nl,AaD (hnm (by unfold Oi;omega)) hv.nk,Yb ((hvl (.inl h5)).resolve_left hnn) hv.pl,⟨hv.a.iL,hv.a.lL,EK Ai hv.a.iP,?_⟩⟩ ⟨n,hn,rfl⟩
   rcases hx with hx|hx
   ·exact Nat.le_trans (Io Ai hx) hv.a.lP
   ·exact Nat.le_trans (EC Ai) (by omega)
  ·exact h
 ·rename_i h5
  rw[if_neg h5]at hstep
  unfold BD at hstep ⊢
  split
  ·rename_i h6'
   rw[if_pos h6']at hstep
   split
   ·exact h
   rename_i hx
   rw[if_neg hx]at hstep
   split
   ·rename_i Ami
    rw[if_pos Ami]at hstep
    split
    ·rename_i hl
     rw[if_pos hl]at hstep
     have hb:VE ⟨c.id,c.fr,c.to,c.name,false,[]⟩:=⟨hid,hnm (by unfold Oi;omega),fun s hs=>(by cases hs),fun s hs=>(by cases hs),⟨List.Pairwise.nil,by simp⟩⟩
     refine⟨⟨hstep,h.vg.n,fun n hn=>?_,fun e he=>?_⟩,?_,h.n,fun n hn=>?_⟩
     ·rcases Bq Ak hn with rfl|hn
      ·exact hb
      ·exact h.vg.e n hn
     ·rcases Bq Ak he with rfl|he
      ·exact Ami
      ·exact h.vg.ends e he
     ·have:=AaF hid h.nx.2.2
      exact⟨h.nx.1,h.nx.2.1,this.1,this.2⟩
     ·rcases Bq Ak hn with rfl|hn
      ·exact Agt (by show c.id<c.id+1;omega)
      ·exact Amh (h.e n hn)
    ·exact h
   ·exact h
  rename_i hop1
  split
  ·exact h
  rename_i n hf
  obtain⟨hn,hz⟩:=Et hf
  have hv:=h.vg.e n hn
  split
  ·exact⟨⟨{ha with lE:=Nat.le_trans (Dz Ak) ha.lE,iE:=EJ Ak ha.iE,aE:=fun m hm=>ha.aE m (Ce hm)},h.vg.n,fun m hm=>h.vg.e m (Ce hm),fun e he=>h.vg.ends e (Ce he)⟩,h.nx,h.n,fun m hm=>h.e m (Ce hm)⟩
  split
  ·exact h.Tn ⟨hv.id,hv.ty,AaE hv.nk,fun p hp=>hv.pl p (Ce hp),⟨EJ Ai hv.a.iP,Nat.le_trans (Dz Ai) hv.a.lP⟩⟩ hn rfl rfl rfl
  split
  ·rename_i h7 hnn hx
   have h8:c.op=8:=by omega
   refine h.Tn ⟨hv.id,hv.ty,AaD (hnm (by unfold Oi;omega)) hv.nk,Yb ((hvl (.inr h8)).resolve_left hnn) hv.pl,⟨EK Ai hv.a.iP,?_⟩⟩ hn rfl rfl rfl
   rcases hx with hx|hx
   ·exact Nat.le_trans (Io Ai hx) hv.a.lP
   ·exact Nat.le_trans (EC Ai) (by omega)
  ·exact h
def F2 {α β:Type} (R:α→β→Prop):List α→List β→Prop
 |[],[]=>True
 |a::l,b::m=>R a b∧F2 R l m
 |_,_=>False
section
variable {α β γ δ:Type} {R:α→β→Prop} {S:γ→δ→Prop}
theorem F2.app:∀{a c:List α} {b d:List β},F2 R a b→F2 R c d→F2 R (a++c) (b++d)
 |[],_,[],_,_,h=>h
 |_::_,_,_::_,_,h,k=>⟨h.1,F2.app h.2 k⟩
 |[],_,_::_,_,h,_=>h.elim
 |_::_,_,[],_,h,_=>h.elim
theorem F2.map {f:α→γ} {g:β→δ} (hf:∀a b,R a b→S (f a) (g b)):∀{l:List α} {m:List β},F2 R l m→F2 S (l.map f) (m.map g)
 |[],[],_=>trivial
 |a::l,b::m,h=>⟨hf a b h.1,F2.map hf h.2⟩
 |[],_::_,h=>h.elim
 |_::_,[],h=>h.elim
theorem F2.filter {p:α→Bool} {q:β→Bool} (hp:∀a b,R a b→p a=q b):∀{l:List α} {m:List β},F2 R l m→F2 R (l.filter p) (m.filter q)
 |[],[],_=>trivial
 |a::l,b::m,h=>by
  have:=hp a b h.1
  cases hb:p a with
  |true=>rw[List.filter_cons_of_pos hb,List.filter_cons_of_pos (by rw[← this];exact hb)];exact⟨h.1,F2.filter hp h.2⟩
  |false=>rw[List.filter_cons_of_neg (by simp[hb]),List.filter_cons_of_neg (by simp[← this,hb])];exact F2.filter hp h.2
 |[],_::_,h=>h.elim
 |_::_,[],h=>h.elim
theorem F2.flm {f:α→List γ} {g:β→List δ} (hf:∀a b,R a b→F2 S (f a) (g b)):∀{l:List α} {m:List β},F2 R l m→F2 S (l.flatMap f) (m.flatMap g)
 |[],[],_=>trivial
 |a::l,b::m,h=>by rw[List.flatMap_cons,List.flatMap_cons];exact F2.app (hf a b h.1) (F2.flm hf h.2)
 |[],_::_,h=>h.elim
 |_::_,[],h=>h.elim
theorem F2.mono {T:α→β→Prop} (hf:∀a b,R a b→T a b):∀{l:List α} {m:List β},F2 R l m→F2 T l m
 |[],[],_=>trivial
 |a::l,b::m,h=>⟨hf a b h.1,F2.mono hf h.2⟩
 |[],_::_,h=>h.elim
 |_::_,[],h=>h.elim
theorem F2.len:∀{l:List α} {m:List β},F2 R l m→l.length=m.length
 |[],[],_=>rfl
 |a::l,b::m,h=>by rw[List.length_cons,List.length_cons,F2.len h.2]
 |[],_::_,h=>h.elim
 |_::_,[],h=>h.elim
theorem F2.at_:∀{l:List α} {m:List β},F2 R l m→∀k (h:k<l.length) (h':k<m.length),R l[k] m[k]
 |a::l,b::m,h,0,_,_=>h.1
 |a::l,b::m,h,k+1,h1,h2=>F2.at_ h.2 k (by simpa using h1) (by simpa using h2)
 |[],[],_,k,h,_=>absurd h (by simp)
 |[],_::_,h,_,_,_=>h.elim
 |_::_,[],h,_,_,_=>h.elim
end
theorem F2.refl {α:Type} {R:α→α→Prop} (h:∀a,R a a):∀l:List α,F2 R l l
 |[]=>trivial
 |a::l=>⟨h a,F2.refl h l⟩
theorem Ach {α:Type} {R:α→α→Prop}:∀{l m:List α},QI R l m→F2 R l m
 |[],[],_=>trivial
 |a::l,b::m,h=>⟨h.2 0 (by simp) (by simp),Ach ⟨by have:=h.1;simpa using this,fun k h1 h2=>h.2 (k+1) (by simpa using h1) (by simpa using h2)⟩⟩
 |[],_::_,h=>by have:=h.1;simp at this
 |_::_,[],h=>by have:=h.1;simp at this
theorem F2.look {α κ:Type} [DecidableEq κ] {key:α→κ} {R:α→α→Prop} (hk:∀a b,R a b→key a=key b) {z:κ}:∀{l m:List α},F2 R l m→(lk key l z=none∧lk key m z=none)∨∃a b,lk key l z=some a∧lk key m z=some b∧R a b
 |[],[],_=>.inl ⟨rfl,rfl⟩
 |a::l,b::m,h=>by
  have e:=hk a b h.1
  unfold lk
  rw[List.find?_cons,List.find?_cons]
  by_cases q:key a=z
  ·rw[decide_eq_true q,decide_eq_true (show key b=z by rw[← e];exact q)]
   exact .inr ⟨a,b,rfl,rfl,h.1⟩
  ·rw[decide_eq_false q,decide_eq_false (show ¬key b=z by rw[← e];exact q)]
   exact F2.look hk h.2
 |[],_::_,h=>h.elim
 |_::_,[],h=>h.elim
def Abj (x y:GC):Prop:=x.op=y.op∧x.id=y.id∧x.fr=y.fr∧x.to=y.to∧x.name=y.name∧EL 12 x.v y.v=0
theorem AjL (a:GV):EL 12 a a=0:=by have:=(PU 12).anti a a;omega
theorem Oa (c:GC):Abj c c:=⟨rfl,rfl,rfl,rfl,rfl,AjL _⟩
theorem Af7 {a b c:GV} (h:EL 12 a b=0):EL 12 c a=0↔EL 12 c b=0:=by
 have p:=PU 12
 have h2:=p.anti a b
 constructor
 ·intro h3
  have h4:=p.anti c a
  have t1:=p.trans c a b (by omega) (by omega)
  have t2:=p.trans b a c (by omega) (by omega)
  have h5:=p.anti c b
  omega
 ·intro h3
  have h4:=p.anti c b
  have t1:=p.trans c b a (by omega) (by omega)
  have t2:=p.trans a b c (by omega) (by omega)
  have h5:=p.anti c a
  omega
theorem AeX {P Q:List GP} (h:F2 SP P Q):keysOf P=keysOf Q:=by
 have h2:=F2.map (S:=Eq) (f:=GP.key) (g:=GP.key) (fun a b r=>r.1) h
 exact List.ext_getElem h2.len fun k h1 h3=>h2.at_ k h1 h3
theorem Zh {op z:Int} {w P Q:List GP} (h:F2 SP P Q):F2 Abj (valuesL op z w P) (valuesL op z w Q):=by
 unfold valuesL
 refine F2.map (R:=SP) (fun a b r=>⟨rfl,rfl,rfl,rfl,r.1,r.2⟩) (F2.filter (fun a b r=>?_) h)
 rw[r.1]
 have:=Af7 (c:=DX w b.key) r.2
 by_cases q:EL 12 (DX w b.key) a.v=0
 ·rw[decide_eq_false (fun h=>h q),decide_eq_false (fun h=>h (this.1 q))]
 ·rw[decide_eq_true (show EL 12 (DX w b.key) a.v≠0 from q),decide_eq_true (show EL 12 (DX w b.key) b.v≠0 from fun h=>q (this.2 h))]
theorem Yt {g k h:GG} (s:SG k h):F2 Abj (DT g k) (DT g h):=by
 have sn:=Ach s.1
 have se:=Ach s.2
 have hN:∀z,(lk GN.id k.nodes z=none∧lk GN.id h.nodes z=none)∨∃a b,lk GN.id k.nodes z=some a∧lk GN.id h.nodes z=some b∧SN a b:=fun z=>F2.look (fun a b r=>r.1) sn
 have hE:∀z,(lk GE.id k.edges z=none∧lk GE.id h.edges z=none)∨∃a b,lk GE.id k.edges z=some a∧lk GE.id h.edges z=some b∧SE a b:=fun z=>F2.look (fun a b r=>r.1) se
 have mv1:∀{x a b:GE},SE a b→Ci x a=Ci x b:=fun{x a b} r=>by unfold Ci;rw[r.2.1,r.2.2.1,r.2.2.2.1]
 have mv2:∀{x a b:GE},SE a b→Ci a x=Ci b x:=fun{x a b} r=>by unfold Ci;rw[r.2.1,r.2.2.1,r.2.2.2.1]
 have g1:BZ k.edges=BZ h.edges:=funext fun x=>by
  rcases hE x.id with⟨h1,h2⟩|⟨a,b,h1,h2,r⟩
  ·rw[SC h1,SC h2]
  ·rw[Ic h1,Ic h2];exact mv1 r
 have g2:Ej k.nodes=Ej h.nodes:=funext fun n=>by
  unfold Ej
  rcases hN n.id with⟨h1,h2⟩|⟨a,b,h1,h2,r⟩
  ·rw[show k.nodes.find? (X9 n.id)=none from h1,show h.nodes.find? (X9 n.id)=none from h2]
  ·rw[show k.nodes.find? (X9 n.id)=some a from h1,show h.nodes.find? (X9 n.id)=some b from h2];rfl
 unfold DT
 refine F2.app ?_ (F2.app ?_ ?_)
 ·unfold H8
  rw[g1,g2]
  exact F2.refl Oa _
 ·unfold P7
  refine F2.app (F2.map (R:=SN) (fun a b r=>by rw[r.1];exact Oa _) (F2.filter (fun a b r=>by unfold Ej;rw[r.1]) sn)) (F2.flm (R:=SN) (fun a b r=>?_) sn)
  have hw:Fg g.nodes a=Fg g.nodes b:=by unfold Fg;rw[r.1]
  have hp:=Ach r.2.2
  unfold H9
  rw[hw,r.1,r.2.1,AeX hp]
  exact F2.app (F2.refl Oa _) (F2.app (F2.refl Oa _) (F2.app (F2.refl Oa _) (Zh hp)))
 ·unfold Ro
  have hg:∀a b,SE a b→BZ g.edges a=BZ g.edges b:=fun a b r=>by
   unfold BZ
   rw[r.1]
   cases g.edges.find? (XI b.id)with
   |none=>rfl
   |some y=>exact mv2 r
  refine F2.app (F2.map (R:=SE) (fun a b r=>by unfold newE;rw[r.1,r.2.1,r.2.2.1,r.2.2.2.1];exact Oa _) (F2.filter hg se)) (F2.flm (R:=SE) (fun a b r=>?_) se)
  have hw:KO g.edges a=KO g.edges b:=by
   unfold KO
   rw[r.1]
   cases g.edges.find? (XI b.id)with
   |none=>rfl
   |some y=>
    show(if Ci a y=true then[]else y.props)=if Ci b y=true then[]else y.props
    rw[mv2 r]
  have hp:=Ach r.2.2.2.2
  unfold D8
  rw[hw,r.1,AeX hp]
  exact F2.app (F2.refl Oa _) (Zh hp)
theorem Vk {g:GG} {m:GN} {L:List GN} (hg:g.ok) (hm:m.ok) (hL:Ln L) (h:∀x∈L,x=m∨x∈g.nodes) {z:Int} (hz:I64 z):(⟨true,L,g.en,g.edges,z,g.BA⟩:GG).ok:=by
 obtain⟨g1,g2,g3,g4,g5,g6,g7,g8⟩:=hg
 refine⟨hL,fun h=>Bool.noConfusion h,fun x hx=>?_,g4,g5,g6,hz,g8⟩
 rcases h x hx with rfl|h
 ·exact hm
 ·exact g3 x h
theorem Vl {g:GG} {m:GE} {L:List GE} (hg:g.ok) (hm:m.ok) (hL:Ln L) (h:∀x∈L,x=m∨x∈g.edges) {z:Int} (hz:I64 z):(⟨g.nn,g.nodes,true,L,g.BF,z⟩:GG).ok:=by
 obtain⟨g1,g2,g3,g4,g5,g6,g7,g8⟩:=hg
 refine⟨g1,g2,g3,hL,fun h=>Bool.noConfusion h,fun x hx=>?_,g7,hz⟩
 rcases h x hx with rfl|h
 ·exact hm
 ·exact g6 x h
theorem OE {α:Type} {lt:Int→Int→Bool} {key:α→Int} {x:α} {l:List α} (hs:Ov lt) (h:l.length≤100000):Ln (A8 lt key x l):=by
 have:=EC (key:=key) hs (x:=x) (l:=l);unfold Ln;omega
theorem PG {α:Type} {key:α→List UInt8} {x:α} {l:List α} (h:l.length≤100000):Ln (A8 Op.bytesLess key x l):=by
 have:=EC (key:=key) Ai (x:=x) (l:=l);unfold Ln;omega
theorem PI {α:Type} {key:α→List UInt8} {x:List UInt8} {l:List α} (h:l.length≤100000):Ln (Cc Op.bytesLess key x l):=by
 have:=Dz (key:=key) Ai (k:=x) (l:=l);unfold Ln;omega
theorem Zy {n:GN} {b:Bool} {L:List (List UInt8)} {x:List UInt8} (hn:n.ok) (hx:Ln x) (hL:Ln L) (hb:b=false→L=[]) (h:∀y∈L,y=x∨y∈n.labels):(⟨n.id,b,L,n.pn,n.props⟩:GN).ok:=by
 obtain⟨o1,o2,o3,o4,o5,o6,o7⟩:=hn
 refine⟨o1,hL,hb,fun s hs=>?_,o5,o6,o7⟩
 rcases h s hs with rfl|h
 ·exact hx
 ·exact o4 s h
theorem Zz {n:GN} {b:Bool} {L:List GP} {x:GP} (hn:n.ok) (hx:x.ok) (hL:Ln L) (hb:b=false→L=[]) (h:∀y∈L,y=x∨y∈n.props):(⟨n.id,n.ln,n.labels,b,L⟩:GN).ok:=by
 obtain⟨o1,o2,o3,o4,o5,o6,o7⟩:=hn
 refine⟨o1,o2,o3,o4,hL,hb,fun s hs=>?_⟩
 rcases h s hs with rfl|h
 ·exact hx
 ·exact o7 s h
theorem ZY {n:GE} {b:Bool} {L:List GP} {x:GP} (hn:n.ok) (hx:x.ok) (hL:Ln L) (hb:b=false→L=[]) (h:∀y∈L,y=x∨y∈n.props):(⟨n.id,n.fr,n.to,n.ty,b,L⟩:GE).ok:=by
 obtain⟨o1,o2,o3,o4,o5,o6,o7⟩:=hn
 refine⟨o1,o2,o3,o4,hL,hb,fun s hs=>?_⟩
 rcases h s hs with rfl|h
 ·exact hx
 ·exact o7 s h
theorem Aeo {z:Int} (h:I64 z):(⟨z,false,[],false,[]⟩:GN).ok:=⟨h,by simp[Ln],fun _=>rfl,by simp,by simp[Ln],fun _=>rfl,by simp⟩
theorem Aep {z fr to:Int} {nm:List UInt8} (h:I64 z) (h1:I64 fr) (h2:I64 to) (h3:Ln nm):(⟨z,fr,to,nm,false,[]⟩:GE).ok:=⟨h,h1,h2,h3,by simp[Ln],fun _=>rfl,by simp⟩
theorem VP (g:GG) (c:GC):(stepG g c).2.nodes.length≤g.nodes.length+1∧(stepG g c).2.edges.length≤g.edges.length+1:=by
 have h0:g.nodes.length≤g.nodes.length+1∧g.edges.length≤g.edges.length+1:=⟨by omega,by omega⟩
 have hp:∀x,(A8 BX GN.id x g.nodes).length≤g.nodes.length+1∧g.edges.length≤g.edges.length+1:=fun x=>⟨EC Ak,by omega⟩
 have hq:∀x,g.nodes.length≤g.nodes.length+1∧(A8 BX GE.id x g.edges).length≤g.edges.length+1:=fun x=>⟨by omega,EC Ak⟩
 unfold stepG
 split
 ·exact h0
 split
 ·unfold Ba
  repeat' split
  all_goals first|exact h0|exact hp _|exact⟨Nat.le_succ_of_le (Dz Ak),h0.2⟩
 ·unfold BD
  repeat' split
  all_goals first|exact h0|exact hq _|exact⟨h0.1,Nat.le_succ_of_le (Dz Ak)⟩
theorem Alv {g:GG} (hg:g.ok) {z:Int} (hl:g.nodes.length≤100000):({g with nodes:=Cc BX GN.id z g.nodes}:GG).ok:=by
 obtain⟨g1,g2,g3,g4,g5,g6,g7,g8⟩:=hg
 refine⟨?_,fun h=>?_,fun x hx=>g3 x (Ce hx),g4,g5,g6,g7,g8⟩
 ·have:=Dz (key:=GN.id) Ak (k:=z) (l:=g.nodes);unfold Ln;dsimp only;omega
 ·rw[show g.nodes=[] from g2 h];rfl
theorem Aly {g:GG} (hg:g.ok) {z:Int} (hl:g.edges.length≤100000):({g with edges:=Cc BX GE.id z g.edges}:GG).ok:=by
 obtain⟨g1,g2,g3,g4,g5,g6,g7,g8⟩:=hg
 refine⟨g1,g2,g3,?_,fun h=>?_,fun x hx=>g6 x (Ce hx),g7,g8⟩
 ·have:=Dz (key:=GE.id) Ak (k:=z) (l:=g.edges);unfold Ln;dsimp only;omega
 ·rw[show g.edges=[] from g5 h];rfl
theorem Aaa {g:GG} {n m:GN} (hg:g.ok) (hl:g.nodes.length≤100000) (hn:n∈g.nodes) (hm:m.ok):({g with nodes:=A8 BX GN.id m g.nodes}:GG).ok:=by
 have hb:g.nn=true:=by
  cases hb:g.nn with
  |true=>rfl
  |false=>have:=hg.2.1 hb;rw[this]at hn;cases hn
 have:=Vk hg hm (OE (key:=GN.id) Ak hl) (fun x hx=>Bq Ak hx) hg.2.2.2.2.2.2.1
 rw[← hb]at this
 exact this
theorem Aip {g:GG} {n m:GE} (hg:g.ok) (hl:g.edges.length≤100000) (hn:n∈g.edges) (hm:m.ok):({g with edges:=A8 BX GE.id m g.edges}:GG).ok:=by
 have hb:g.en=true:=by
  cases hb:g.en with
  |true=>rfl
  |false=>have:=hg.2.2.2.2.1 hb;rw[this]at hn;cases hn
 have:=Vl hg hm (OE (key:=GE.id) Ak hl) (fun x hx=>Bq Ak hx) hg.2.2.2.2.2.2.2
 rw[← hb]at this
 exact this
theorem AbC {a b:Int} (ha:Jw a) (hb:I64 b):I64 (if a+1>b then a+1 else b):=by unfold I64 Jw at *;split<;>omega
theorem Aes {g:GG} {c:GC} (hg:g.ok) (ha:Ef g) (hc:c.ok):(stepG g c).2.ok:=by
 have lN:=ha.lN
 have lE:=ha.lE
 obtain⟨c1,c2,c3,c4,c5,c6⟩:=hc
 unfold stepG
 split
 ·exact hg
 rename_i hk
 have hid:=(Ae1 (Classical.not_not.1 hk)).2.1
 split
 ·unfold Ba
  split
  ·split
   ·exact hg
   split
   ·exact Vk hg (Aeo c2) (OE Ak (by omega)) (fun x hx=>Bq Ak hx) (AbC hid hg.2.2.2.2.2.2.1)
   ·exact hg
  split
  ·exact hg
  rename_i n hf
  have hn:=List.mem_of_find?_eq_some hf
  have hno:=hg.2.2.1 n hn
  have hA:=ha.aN n hn
  have l1:=hA.lL
  have l2:=hA.lP
  split
  ·split
   ·exact hg
   ·exact Alv hg (by omega)
  split
  ·split
   ·exact hg
   split
   ·exact Aaa hg (by omega) hn (Zy hno c5 (PG (by omega)) (fun h=>Bool.noConfusion h) (fun y hy=>Bq Ai hy))
   ·exact hg
  split
  ·split
   ·exact Aaa hg (by omega) hn (Zy hno c5 (PI (by omega)) (fun h=>Bool.noConfusion h) (fun y hy=>.inr (Ce hy)))
   ·exact hg
  split
  ·refine Aaa hg (by omega) hn (Zz (x:=⟨c.name,c.v⟩) hno ⟨c5,c6⟩ (PI (by omega)) (fun h=>?_) (fun y hy=>.inr (Ce hy)))
   rw[show n.props=[] from hno.2.2.2.2.2.1 h];rfl
  split
  ·exact Aaa hg (by omega) hn (Zz (x:=⟨c.name,c.v⟩) hno ⟨c5,c6⟩ (PG (by omega)) (fun h=>Bool.noConfusion h) (fun y hy=>Bq Ai hy))
  ·exact hg
 ·unfold BD
  split
  ·split
   ·exact hg
   split
   ·split
    ·exact Vl hg (Aep c2 c3 c4 c5) (OE Ak (by omega)) (fun x hx=>Bq Ak hx) (AbC hid hg.2.2.2.2.2.2.2)
    ·exact hg
   ·exact hg
  split
  ·exact hg
  rename_i n hf
  have hn:=List.mem_of_find?_eq_some hf
  have hno:=hg.2.2.2.2.2.1 n hn
  have hA:=ha.aE n hn
  have l2:=hA.lP
  split
  ·exact Aly hg (by omega)
  split
  ·refine Aip hg (by omega) hn (ZY (x:=⟨c.name,c.v⟩) hno ⟨c5,c6⟩ (PI (by omega)) (fun h=>?_) (fun y hy=>.inr (Ce hy)))
   rw[show n.props=[] from hno.2.2.2.2.2.1 h];rfl
  split
  ·exact Aip hg (by omega) hn (ZY (x:=⟨c.name,c.v⟩) hno ⟨c5,c6⟩ (PG (by omega)) (fun h=>Bool.noConfusion h) (fun y hy=>Bq Ai hy))
  ·exact hg
theorem AvT {l:List (List UInt8)} {x:List UInt8} {nn:Bool} (hl:l.length<2^63):Ag (Ac tab) 181 [.sl nn (vs .str l),.str x] (fun v=>∃z,v=.int .i64 z∧(0≤z↔x∈l)):=by
 refine Ad rfl rfl ?_
 (conv=>whnf);repeat' (first|refine kA ?_;conv=>whnf|(apply Br.mk<;>intro hc<;>first|exact hc.elim|conv=>whnf)  |refine kB ?_)
 refine Af (fun m env s=>∃i:Nat,m=l.length-i∧env=[(0,.sl nn (vs .str l)),(1,.str x),(7,.int .i64 l.length),(8,.int .i64 i)]∧s=⟨[],0⟩∧x∉l.take i) ?_ _ _ _ ⟨0,rfl,by simp,rfl,by simp⟩
 rintro _ _ _ ⟨i,rfl,rfl,rfl,hx⟩
 refine⟨rfl,?_⟩
 (conv=>whnf);repeat' (first|refine kA ?_;conv=>whnf|(apply Br.mk<;>intro hc<;>first|exact hc.elim|conv=>whnf)  |refine kB ?_)
 ·subst hc;exact⟨_,rfl,by simp⟩
 ·exact again.mk ⟨_,by omega,i+1,rfl,rfl,rfl,nms (by omega) hx (fun h=>hc h.symm)⟩
 ·rw[CQ hc]at hx;exact⟨_,rfl,by simp[hx]⟩
theorem Ahl {l:List (List UInt8)} {x:List UInt8} {nn:Bool} (hl:l.length<2^63):Ag (Ac tab) 100 [.sl nn (vs .str l),.str x] (· =.bool (decide (x∈l))):=by
 refine Ad rfl rfl ?_
 (conv=>whnf);repeat' (first|refine kA ?_;conv=>whnf|(apply Br.mk<;>intro hc<;>first|exact hc.elim|conv=>whnf)  |refine kB ?_)
 refine Aa (AvT hl) ?_
 rintro _ ⟨z,rfl,hz⟩
 (conv=>whnf);repeat' (first|refine kA ?_;conv=>whnf|(apply Br.mk<;>intro hc<;>first|exact hc.elim|conv=>whnf)  |refine kB ?_)
 ·exact Bh (hz.1 hc)
 ·exact Ar (mt hz.2 hc)
theorem Avq {l:List (List UInt8)} {x:List UInt8} {nn:Bool} (hl:l.length<2^63):Ag (Ac tab) 188 [.sl nn (vs .str l),.str x] (· =.bool (decide (x∈l))):=by
 refine Ad rfl rfl ?_
 (conv=>whnf);repeat' (first|refine kA ?_;conv=>whnf|(apply Br.mk<;>intro hc<;>first|exact hc.elim|conv=>whnf)  |refine kB ?_)
 refine Af (fun m env s=>∃i:Nat,m=l.length-i∧env=[(0,.sl nn (vs .str l)),(1,.str x),(5,.int .i64 i)]∧s=⟨[],0⟩∧x∉l.take i) ?_ _ _ _ ⟨0,rfl,rfl,rfl,by simp⟩
 rintro _ _ _ ⟨i,rfl,rfl,rfl,hx⟩
 refine⟨rfl,?_⟩
 (conv=>whnf);repeat' (first|refine kA ?_;conv=>whnf|(apply Br.mk<;>intro hc<;>first|exact hc.elim|conv=>whnf)  |refine kB ?_)
 ·subst hc;exact Bh (by simp)
 ·exact again.mk ⟨_,by omega,i+1,rfl,rfl,rfl,nms (by omega) hx hc⟩
 ·rw[CQ hc]at hx;exact Ar hx
structure AJ where
 fr:Int
 to:Int
 ed:Int
def AJ.av (a:AJ):AV:=.agg [.int .i64 a.fr,.int .i64 a.to,.int .i64 a.ed]
theorem ZP:∀a:AJ,a.av.cells.length=3:=fun _=>rfl
theorem Arw {g:GG} {len c go gx:Nat} {nn:Bool} {W:List AJ} {x:AJ} {id dir ii:Int} (hl:len=W.length) (h0:0<len) (hs:len<2^61) {Q:Aw→Env→Aq→Prop}
 (hQ:∀(t:Nat) (W':List AJ),W'.length=len→t<len→Q (.exit 2) [(1,.int .i64 id),(2,.sl false []),(3,.int .i64 dir),(4,.ref 0 0 0 0),(9,.own 1 go 0 len),(10,.int .i64 ii),(11,.ref 2 gx 0 0),(13,.int .i64 t),(84,.bool false)] ⟨[.arr 0 4 true true [g.av],.arr go 3 nn true (vs AJ.av W'),.arr gx 3 true true [x.av]],c⟩):
 Run (Ac tab) (.loop l189_0_h l189_0_b) [(1,.int .i64 id),(2,.sl false []),(3,.int .i64 dir),(4,.ref 0 0 0 0),(9,.own 1 go 0 len),(10,.int .i64 ii),(11,.ref 2 gx 0 0),(13,.int .i64 (len-1:Nat))] ⟨[.arr 0 4 true true [g.av],.arr go 3 nn true (vs AJ.av W),.arr gx 3 true true [x.av]],c⟩ Q:=by
 refine Af (fun m env s=>∃(t:Nat) (W:List AJ),m=t∧t<len∧W.length=len∧env=[(1,.int .i64 id),(2,.sl false []),(3,.int .i64 dir),(4,.ref 0 0 0 0),(9,.own 1 go 0 len),(10,.int .i64 ii),(11,.ref 2 gx 0 0),(13,.int .i64 t)]∧s=⟨[.arr 0 4 true true [g.av],.arr go 3 nn true (vs AJ.av W),.arr gx 3 true true [x.av]],c⟩) ?_ _ _ _ ⟨len-1,W,rfl,by omega,hl.symm,rfl,rfl⟩
 clear hl
 rintro m _ _ ⟨t,W,hm,ht,hW,rfl,rfl⟩
 subst m
 refine⟨rfl,?_⟩
 by_cases h:0<t
 ·(conv=>whnf);repeat' (first|(apply Au;(· exact nVz (t-1) (by omega) (by omega));conv=>whnf)|((with_reducible show eqK _ _);refine tV ZP (x:=W[t-1]) t ?_ (by omega);conv=>whnf)|refine kA ?_;conv=>whnf|(apply Br.mk<;>intro hc<;>first|exact hc.elim|conv=>whnf)|refine kB ?_)
  all_goals first
   |(refine again.mk ⟨t-1,by omega,t-1,W.set t W[t-1],rfl,by omega,by rw[List.length_set];exact hW,?_,rfl⟩;rw[show ((t-1:Nat):Int)=(t:Int)-1 by omega];done)
   |(refine again.mk ⟨t-1,by omega,t-1,W.set t W[t-1],rfl,by omega,by rw[List.length_set];exact hW,?_,rfl⟩;rw[show ((t-1:Nat):Int)=(t:Int)-1 by omega];rfl)
   |exact hQ _ _ hW ht
 ·(conv=>whnf);repeat' (first  |refine kA ?_;conv=>whnf|(apply Br.mk<;>intro hc<;>first|exact hc.elim|conv=>whnf)|refine kB ?_)
  exact hQ _ _ hW ht
section
variable {α κ:Type} {lt:κ→κ→Bool} {key:α→κ}
theorem Pq {x y:α} {L:List α} (hs:Ov lt) (h:lt (key x) (key y)=true):A8 lt key x (L++[y])=A8 lt key x L++[y]:=by
 have h1:lt (key y) (key x)=false:=by
  cases hb:lt (key y) (key x)with
  |false=>rfl
  |true=>have:=hs.tr _ _ _ h hb;rw[hs.Oc]at this;cases this
 simp only[A8,below,above,List.filter_append,List.filter_cons,List.filter_nil,h,h1,if_true,List.append_assoc]
 rfl
theorem LW {x:α} {L:List α} (hs:Ov lt) (h:∀y∈L,lt (key y) (key x)=true):A8 lt key x L=L++[x]:=by
 have e1:below lt key (key x) L=L:=filter_all h
 have e2:above lt key (key x) L=[]:=filter_none fun y hy=>by
  cases hb:lt (key x) (key y)with
  |false=>rfl
  |true=>have:=hs.tr _ _ _ hb (h y hy);rw[hs.Oc]at this;cases this
 rw[A8,e1,e2,List.append_nil]
theorem Tj {x y:α} {L:List α} (hs:Ov lt) (h:∀y∈L,lt (key y) (key x)=true) (e:key y=key x):A8 lt key x (L++[y])=L++[x]:=by
 have h1:lt (key y) (key x)=false:=by rw[e];exact hs.Oc _
 have h2:lt (key x) (key y)=false:=by rw[e];exact hs.Oc _
 rw[← LW hs h]
 simp[A8,below,above,List.filter_append,h1,h2]
end
theorem VQ {α:Type} {key:α→Int} {l:List α} {i:Nat} {x:Int} (h:Inc BX key l) (hi:i<l.length) (hx:x≤key l[i]):∀y∈l.drop (i+1),x<key y:=by
 intro y hy
 obtain⟨j,hj,rfl⟩:=List.mem_drop_iff_getElem.1 hy
 have:=h.get (show i<i+1+j by omega) (by omega)
 simp only[BX,decide_eq_true_eq]at this
 omega
theorem AbE {x y:GN} {L:List GN} (h:x.id<y.id):A8 BX GN.id x (L++[y])=A8 BX GN.id x L++[y]:=Pq Ak (by simpa[BX]using h)
theorem AbF {x:GN} {L:List GN} (h:∀y∈L,y.id<x.id):A8 BX GN.id x L=L++[x]:=LW Ak fun y hy=>by simpa[BX]using h y hy
theorem AlB {x y:GN} {L:List GN} (h:∀y∈L,y.id<x.id) (e:y.id=x.id):A8 BX GN.id x (L++[y])=L++[x]:=Tj Ak (fun y hy=>by simpa[BX]using h y hy) e
set_option maxHeartbeats 1000000 in
theorem Aa9 {g:GG} {n:GN} (hg:g.ok) (hN:g.nodes.length≤3000) (hI:Inc BX GN.id g.nodes) (hi1:1≤n.id) (hi2:n.id≤1000000):Ag (Ac tab) 72 [g.av,n.av] (· =GG.av ⟨true,A8 BX GN.id n g.nodes,g.en,g.edges,(if n.id+1>g.BF then n.id+1 else g.BF),g.BA⟩):=by
 obtain⟨g1,g2,g3,g4,g5,g6,g7,g8⟩:=hg
 unfold I64 at g7
 refine Ad rfl rfl ?_
 (conv=>whnf);repeat' (first  |refine kA ?_;conv=>whnf|(apply Br.mk<;>intro hc<;>first|exact hc.elim|conv=>whnf)|refine kB ?_)
 refine Af (fun m env s=>∃(i c go k:Nat) (b d:Bool) (l:List GN),m=g.nodes.length-i∧i≤g.nodes.length∧k=l.length∧l.length≤i+1∧(b=false→d=false)∧(d=false→l=g.nodes.take i∧∀y∈g.nodes.take i,y.id<n.id)∧(d=true→l=A8 BX GN.id n (g.nodes.take i)∧∀y∈g.nodes.drop i,n.id<y.id)∧env=[(2,.ref 0 0 0 0),(3,.ref 1 1 0 0),(4,.ref 2 2 0 0),(5,.own 3 go 0 k),(6,.bool d),(7,.int .i64 i)]∧
  s=⟨[.arr 0 4 true true [g.av],.arr 1 3 true true [n.av],.arr 2 4 true true [.agg [.sl false [],.sl false [],.int .i64 0,.int .i64 0]],.arr go 3 b true (vs GN.av l)],c⟩) ?_ _ _ _ ⟨0,_,_,0,_,_,[],rfl,by omega,rfl,by simp,fun _=>rfl,fun _=>⟨rfl,by simp⟩,fun h=>Bool.noConfusion h,rfl,rfl⟩
 rintro _ _ _ ⟨i,c,go,k,b,d,l,rfl,hi,hk,hl,hb,hd,ht,rfl,rfl⟩
 refine⟨rfl,?_⟩
 subst hk
 by_cases hlt:i<g.nodes.length
 ·have hda:∀x:Int,x≤(g.nodes[i]).id→∀y∈g.nodes.drop (i+1),x<y.id:=fun x hx=>VQ hI hlt hx
  have hs:=List.take_succ_eq_append_getElem hlt
  have htk:∀{P:GN→Prop},(∀ y∈g.nodes.take i,P y)→P g.nodes[i]→∀y∈g.nodes.take (i+1),P y:=fun{P} h1 h2 y hy=>by
   rw[hs]at hy
   rcases List.mem_append.1 hy with hy|hy
   ·exact h1 y hy
   ·obtain rfl:=List.mem_singleton.1 hy;exact h2
  cases d
  ·obtain⟨rfl,hlo⟩:=hd rfl
   have hle:(g.nodes.take i).length≤i:=by rw[List.length_take];omega
   (conv=>whnf);repeat' (first|(refine Dt (x:=n) Xe (by simp) (by simp;omega) ?_;conv=>whnf)|(refine Dt (x:=g.nodes[i]) Xe (by simp) (by simp;omega) ?_;conv=>whnf)|refine kA ?_;conv=>whnf|(apply Br.mk<;>intro hc<;>first|exact hc.elim|conv=>whnf)|refine kB ?_)
   all_goals first
        |exact again.mk ⟨_,by omega,i+1,_,_,_,_,_,g.nodes.take i++[n]++[g.nodes[i]],rfl,by omega,by simp,by simp;omega,fun h=>Bool.noConfusion h,fun h=>Bool.noConfusion h,fun _=>⟨by rw[hs,AbE (by omega),AbF hlo],hda _ (by omega)⟩,rfl,rfl⟩
        |exact again.mk ⟨_,by omega,i+1,_,_,_,_,_,g.nodes.take i++[n],rfl,by omega,by simp,by simp;omega,fun h=>Bool.noConfusion h,fun h=>Bool.noConfusion h,fun _=>⟨by rw[hs,AlB hlo (by omega)],hda _ (by omega)⟩,rfl,rfl⟩
        |exact again.mk ⟨_,by omega,i+1,_,_,_,_,_,g.nodes.take i++[g.nodes[i]],rfl,by omega,by rw[List.length_append,List.length_singleton],by rw[List.length_append,List.length_singleton];omega,fun _=>rfl,fun _=>⟨hs.symm,htk hlo (by omega)⟩,fun h=>Bool.noConfusion h,rfl,rfl⟩
        |(exfalso;omega)
  ·obtain⟨rfl,hhi⟩:=ht rfl
   have hgt:n.id<(g.nodes[i]).id:=hhi _ (by rw[List.drop_eq_getElem_cons hlt];exact List.mem_cons_self)
   (conv=>whnf);repeat' (first|(refine Dt (x:=g.nodes[i]) Xe (by simp) (by simp;omega) ?_;conv=>whnf)|refine kA ?_;conv=>whnf|(apply Br.mk<;>intro hc<;>first|exact hc.elim|conv=>whnf)|refine kB ?_)
   all_goals first
        |exact again.mk ⟨_,by omega,i+1,_,_,_,_,_,A8 BX GN.id n (g.nodes.take i)++[g.nodes[i]],rfl,by omega,by simp,by simp;omega,fun h=>Bool.noConfusion h,fun h=>Bool.noConfusion h,fun _=>⟨by rw[hs,AbE hgt],hda _ (by omega)⟩,rfl,rfl⟩
        |(exfalso;omega)
 ·obtain rfl:i=g.nodes.length:=by omega
  rw[List.take_length]at hd ht
  cases d
  ·obtain⟨rfl,hlo⟩:=hd rfl
   rw[AbF hlo]
   (conv=>whnf);repeat' (first|(refine Dt (x:=n) Xe (by simp) (by simp;omega) ?_;conv=>whnf)|refine kA ?_;conv=>whnf|(apply Br.mk<;>intro hc<;>first|exact hc.elim|conv=>whnf)|refine kB ?_)
   all_goals first|rfl|(exfalso;omega)
  ·obtain⟨rfl,_⟩:=ht rfl
   cases b
   ·exact absurd (hb rfl) Bool.noConfusion
   (conv=>whnf);repeat' (first  |refine kA ?_;conv=>whnf|(apply Br.mk<;>intro hc<;>first|exact hc.elim|conv=>whnf)|refine kB ?_)
   all_goals first|rfl|(exfalso;omega)
theorem AuQ {α:Type} {f:α→AV} {es g len:Nat} {nn cl:Bool} {l l':List α} {ys:List AV} {bytes:Nat} {K:Nat→Bool→Bool→List AV→Prop} (he:ys=vs f l') (hf:∀x,(f x).cells.length=es) (hl:len=l.length) (hr:(l.length+l'.length)*bytes≤2 ^ 46) (hn:nn=false→l=[]) (h:∀b,(b=false→l++l'=[])→K (l.length+l'.length) b cl (vs f (l++l'))):
 La g g es es len nn cl true (vs f l) ys bytes K:=by
 subst hl he
 refine⟨⟨rfl,rfl,by simp,Ey hf l',by rw[lV];exact OG hr⟩,?_⟩
 rw[lV,Bool.and_true,List.take_of_length_le (by simp)]
 have:=h (nn||!(vs f l').isEmpty) (fun hb=>by
  simp[vs]at hb
  rw[hn hb.1,hb.2];rfl)
 simpa[vs]using this
theorem AkJ {α:Type} {A B:List α}:List.take (A.length+B.length) (List.drop 0 (A++B))=A++B:=by
 rw[List.drop_zero,List.take_of_length_le (Nat.le_of_eq List.length_append)]
theorem AcH (x:List UInt8):(AV.str x).cells.length=1:=rfl
theorem Abw {p q:Prop} [Decidable p] [Decidable q] (h:p↔q):AV.bool (decide p)=AV.bool (decide q):=by
 by_cases hp:p
 ·rw[decide_eq_true hp,decide_eq_true (h.1 hp)]
 ·rw[decide_eq_false hp,decide_eq_false (mt h.2 hp)]
theorem AgE {g:GV} (hg:g.ok):Ag (Ac tab) 122 [g.av] (· =.bool (decide (isNull g))):=by
 refine Ad rfl rfl ?_
 (conv=>whnf);repeat' (first|(refine Aa (Aku hg) ?_;rintro _ ⟨z,rfl,hz⟩;conv=>whnf)|refine kA ?_;conv=>whnf|(apply Br.mk<;>intro hc<;>first|exact hc.elim|conv=>whnf)|refine kB ?_)
 all_goals first|exact Bh (hz.1 hc)|exact Ar (mt hz.2 hc)|exact Abw hz
set_option maxHeartbeats 1000000 in
theorem Abb {P:List GP} {nn:Bool} {key:List UInt8} {v:GV} (hP:P.length≤100000) (hI:Inc Op.bytesLess GP.key P) (hv:v.ok) (hn:¬isNull v):Ag (Ac tab) 124 [.sl nn (vs GP.av P),.str key,v.av] (· =.BG [.sl true (vs GP.av (A8 Op.bytesLess GP.key ⟨key,v⟩ P)),.bool (decide ((A8 Op.bytesLess GP.key ⟨key,v⟩ P).length≤16))]):=by
 have h0:Ag (Ac tab) 122 [v.av] (· =.bool false):=by have:=AgE hv;rw[decide_eq_false hn]at this;exact this
 refine Ad rfl rfl ?_
 (conv=>whnf);repeat' (first  |refine kA ?_;conv=>whnf|(apply Br.mk<;>intro hc<;>first|exact hc.elim|conv=>whnf)|refine kB ?_)
 refine Af (fun m env s=>∃(i c go k:Nat) (b d:Bool) (r:List GP),m=P.length-i∧i≤P.length∧k=r.length∧r.length≤i+1∧(b=false→d=false)∧(d=false→r=P.take i∧∀y∈P.take i,Op.bytesLess y.key key=true)∧(d=true→r=A8 Op.bytesLess GP.key ⟨key,v⟩ (P.take i)∧∀y∈P.drop i,Op.bytesLess key y.key=true)∧env=[(0,.sl nn (vs GP.av P)),(1,.str key),(5,.ref 0 0 0 0),(8,.own 1 go 0 k),(9,.bool d),(10,.int .i64 i)]∧
  s=⟨[.arr 0 5 true true [v.av],.arr go 6 b true (vs GP.av r)],c⟩) ?_ _ _ _ ⟨0,_,_,0,_,_,[],rfl,by omega,rfl,by simp,fun _=>rfl,fun _=>⟨rfl,by simp⟩,fun h=>Bool.noConfusion h,rfl,rfl⟩
 rintro _ _ _ ⟨i,c,go,k,b,d,r,rfl,hi,hk,hl,hb,hd,ht,rfl,rfl⟩
 refine⟨rfl,?_⟩
 subst hk
 by_cases hlt:i<P.length
 ·have hs:=List.take_succ_eq_append_getElem hlt
  have hab:∀y∈P.drop (i+1),Op.bytesLess (P[i]).key y.key=true:=fun y hy=>by
   obtain⟨j,hj,rfl⟩:=List.mem_drop_iff_getElem.1 hy
   exact hI.get (show i<i+1+j by omega) (by omega)
  have htk:∀{R:GP→Prop},(∀ y∈P.take i,R y)→R P[i]→∀y∈P.take (i+1),R y:=fun{R} h1 h2 y hy=>by
   rw[hs]at hy
   rcases List.mem_append.1 hy with hy|hy
   ·exact h1 y hy
   ·obtain rfl:=List.mem_singleton.1 hy;exact h2
  cases d
  ·obtain⟨rfl,hlo⟩:=hd rfl
   (conv=>whnf);repeat' (first|(refine Aa h0 ?_;rintro _ rfl;conv=>whnf)|(refine Dt (x:=(⟨key,v⟩:GP)) Uf (by simp) (by simp;omega) ?_;conv=>whnf)|(refine Dt (x:=P[i]) Uf (by simp) (by simp;omega) ?_;conv=>whnf)|refine kA ?_;conv=>whnf|(apply Br.mk<;>intro hc<;>first|exact hc.elim|conv=>whnf)|refine kB ?_)
   all_goals first
        |(exfalso;have e1:Op.bytesLess (P[i]).key key=true:=by assumption
          rw[hc,Ai.Oc]at e1;cases e1)
        |(have hgt:Op.bytesLess key (P[i]).key=true:=by
           cases hx:Op.bytesLess key (P[i]).key with
           |true=>rfl
           |false=>exact absurd (Ai.tot _ _ (by assumption) hx) hc
          exact again.mk ⟨_,by omega,i+1,_,_,_,_,_,P.take i++[⟨key,v⟩]++[P[i]],rfl,by omega,by simp,by rw[List.length_append,List.length_append,List.length_singleton,List.length_singleton,List.length_take];omega,fun h=>Bool.noConfusion h,fun h=>Bool.noConfusion h,fun _=>⟨by rw[hs,Pq Ai hgt,LW Ai hlo],fun y hy=>Ai.tr _ _ _ hgt (hab y hy)⟩,rfl,rfl⟩)
        |exact again.mk ⟨_,by omega,i+1,_,_,_,_,_,P.take i++[⟨key,v⟩],rfl,by omega,by simp,by rw[List.length_append,List.length_singleton,List.length_take];omega,fun h=>Bool.noConfusion h,fun h=>Bool.noConfusion h,fun _=>⟨by rw[hs,Tj Ai hlo hc],fun y hy=>by have:=hab y hy;rw[hc]at this;exact this⟩,rfl,rfl⟩
        |exact again.mk ⟨_,by omega,i+1,_,_,_,_,_,P.take i++[P[i]],rfl,by omega,by rw[List.length_append,List.length_singleton],by rw[List.length_append,List.length_singleton,List.length_take];omega,fun _=>rfl,fun _=>⟨hs.symm,htk hlo (by assumption)⟩,fun h=>Bool.noConfusion h,rfl,rfl⟩
  ·obtain⟨rfl,hhi⟩:=ht rfl
   have hgt:Op.bytesLess key (P[i]).key=true:=hhi _ (by rw[List.drop_eq_getElem_cons hlt];exact List.mem_cons_self)
   (conv=>whnf);repeat' (first|(refine Dt (x:=P[i]) Uf (by simp) (by simp;omega) ?_;conv=>whnf)|refine kA ?_;conv=>whnf|(apply Br.mk<;>intro hc<;>first|exact hc.elim|conv=>whnf)|refine kB ?_)
   all_goals first
        |(exfalso;rw[hc,Ai.Oc]at hgt;cases hgt)
        |exact again.mk ⟨_,by omega,i+1,_,_,_,_,_,A8 Op.bytesLess GP.key ⟨key,v⟩ (P.take i)++[P[i]],rfl,by omega,by simp,by simp;omega,fun h=>Bool.noConfusion h,fun h=>Bool.noConfusion h,fun _=>⟨by rw[hs,Pq Ai hgt],fun y hy=>Ai.tr _ _ _ hgt (hab y hy)⟩,rfl,rfl⟩
 ·obtain rfl:i=P.length:=by omega
  rw[List.take_length]at hd ht
  cases d
  ·obtain⟨rfl,hlo⟩:=hd rfl
   rw[LW Ai (x:=(⟨key,v⟩:GP)) hlo]
   (conv=>whnf);repeat' (first|(refine Aa h0 ?_;rintro _ rfl;conv=>whnf)|(refine Dt (x:=(⟨key,v⟩:GP)) Uf (by simp) (by simp;omega) ?_;conv=>whnf)|refine kA ?_;conv=>whnf|(apply Br.mk<;>intro hc<;>first|exact hc.elim|conv=>whnf)|refine kB ?_)
   all_goals first|(exfalso;omega)|(refine congrArg (fun z=>AV.BG [AV.sl true _,AV.bool z]) ?_;symm;first|exact decide_eq_true (by rw[List.length_append,List.length_singleton];omega)|exact decide_eq_false (by rw[List.length_append,List.length_singleton];omega))
  ·obtain⟨rfl,_⟩:=ht rfl
   cases b
   ·exact absurd (hb rfl) Bool.noConfusion
   (conv=>whnf);repeat' (first  |refine kA ?_;conv=>whnf|(apply Br.mk<;>intro hc<;>first|exact hc.elim|conv=>whnf)|refine kB ?_)
   all_goals first|(exfalso;omega)|exact congrArg (fun z=>AV.BG [AV.sl true (vs GP.av (A8 Op.bytesLess GP.key ⟨key,v⟩ P)),AV.bool z]) (by first|rfl|(simp;omega))
section
variable {α κ:Type} {lt:κ→κ→Bool} {key:α→κ}
theorem Yc {k:κ} {y:α} {L:List α} (hs:Ov lt) (h:lt k (key y)=true):Cc lt key k (L++[y])=Cc lt key k L++[y]:=by
 have h1:lt (key y) k=false:=by
  cases hb:lt (key y) k with
  |false=>rfl
  |true=>have:=hs.tr _ _ _ h hb;rw[hs.Oc]at this;cases this
 simp[Cc,below,above,List.filter_append,h,h1]
theorem VX {k:κ} {L:List α} (hs:Ov lt) (h:∀y∈L,lt (key y) k=true):Cc lt key k L=L:=by
 have e1:below lt key k L=L:=filter_all h
 have e2:above lt key k L=[]:=filter_none fun y hy=>by
  cases hb:lt k (key y)with
  |false=>rfl
  |true=>have:=hs.tr _ _ _ hb (h y hy);rw[hs.Oc]at this;cases this
 rw[Cc,e1,e2,List.append_nil]
theorem Ya {k:κ} {y:α} {L:List α} (hs:Ov lt) (h:∀y∈L,lt (key y) k=true) (e:key y=k):Cc lt key k (L++[y])=L:=by
 have h1:lt (key y) k=false:=by rw[e];exact hs.Oc _
 have h2:lt k (key y)=false:=by rw[e];exact hs.Oc _
 have:=VX hs h
 simp only[Cc,below,above]at this
 simp[Cc,below,above,List.filter_append,h1,h2,this]
end
set_option maxHeartbeats 1000000 in
theorem Aba {P:List GP} {nn:Bool} {key:List UInt8} {v:GV} (hP:P.length≤100000) (hI:Inc Op.bytesLess GP.key P) (hv:v.ok) (hn:isNull v):Ag (Ac tab) 124 [.sl nn (vs GP.av P),.str key,v.av] (fun w=>∃b,(b=false→Cc Op.bytesLess GP.key key P=[])∧w=.BG [.sl b (vs GP.av (Cc Op.bytesLess GP.key key P)),.bool (decide ((Cc Op.bytesLess GP.key key P).length≤16))]):=by
 have h0:Ag (Ac tab) 122 [v.av] (· =.bool true):=by have:=AgE hv;rw[decide_eq_true hn]at this;exact this
 refine Ad rfl rfl ?_
 (conv=>whnf);repeat' (first  |refine kA ?_;conv=>whnf|(apply Br.mk<;>intro hc<;>first|exact hc.elim|conv=>whnf)|refine kB ?_)
 refine Af (fun m env s=>∃(i c go k:Nat) (b d:Bool) (r:List GP),m=P.length-i∧i≤P.length∧k=r.length∧r.length≤i+1∧(b=false→r=[])∧(d=false→r=P.take i∧∀y∈P.take i,Op.bytesLess y.key key=true)∧(d=true→r=Cc Op.bytesLess GP.key key (P.take i)∧∀y∈P.drop i,Op.bytesLess key y.key=true)∧env=[(0,.sl nn (vs GP.av P)),(1,.str key),(5,.ref 0 0 0 0),(8,.own 1 go 0 k),(9,.bool d),(10,.int .i64 i)]∧
  s=⟨[.arr 0 5 true true [v.av],.arr go 6 b true (vs GP.av r)],c⟩) ?_ _ _ _ ⟨0,_,_,0,_,_,[],rfl,by omega,rfl,by simp,fun _=>rfl,fun _=>⟨rfl,by simp⟩,fun h=>Bool.noConfusion h,rfl,rfl⟩
 rintro _ _ _ ⟨i,c,go,k,b,d,r,rfl,hi,hk,hl,hb,hd,ht,rfl,rfl⟩
 refine⟨rfl,?_⟩
 subst hk
 by_cases hlt:i<P.length
 ·have hs:=List.take_succ_eq_append_getElem hlt
  have hab:∀y∈P.drop (i+1),Op.bytesLess (P[i]).key y.key=true:=fun y hy=>by
   obtain⟨j,hj,rfl⟩:=List.mem_drop_iff_getElem.1 hy
   exact hI.get (show i<i+1+j by omega) (by omega)
  have htk:∀{R:GP→Prop},(∀ y∈P.take i,R y)→R P[i]→∀y∈P.take (i+1),R y:=fun{R} h1 h2 y hy=>by
   rw[hs]at hy
   rcases List.mem_append.1 hy with hy|hy
   ·exact h1 y hy
   ·obtain rfl:=List.mem_singleton.1 hy;exact h2
  cases d
  ·obtain⟨rfl,hlo⟩:=hd rfl
   (conv=>whnf);repeat' (first|(refine Aa h0 ?_;rintro _ rfl;conv=>whnf)|(refine Dt (x:=P[i]) Uf (by simp) (by simp;omega) ?_;conv=>whnf)|refine kA ?_;conv=>whnf|(apply Br.mk<;>intro hc<;>first|exact hc.elim|conv=>whnf)|refine kB ?_)
   all_goals first
        |(exfalso;have e1:Op.bytesLess (P[i]).key key=true:=by assumption
          rw[hc,Ai.Oc]at e1;cases e1)
        |(have hgt:Op.bytesLess key (P[i]).key=true:=by
           cases hx:Op.bytesLess key (P[i]).key with
           |true=>rfl
           |false=>exact absurd (Ai.tot _ _ (by assumption) hx) hc
          exact again.mk ⟨_,by omega,i+1,_,_,_,_,_,P.take i++[P[i]],rfl,by omega,by rw[List.length_append,List.length_singleton],by rw[List.length_append,List.length_singleton,List.length_take];omega,fun h=>Bool.noConfusion h,fun h=>Bool.noConfusion h,fun _=>⟨by rw[hs,Yc Ai hgt,VX Ai hlo],fun y hy=>Ai.tr _ _ _ hgt (hab y hy)⟩,rfl,rfl⟩)
        |exact again.mk ⟨_,by omega,i+1,_,_,_,_,_,P.take i,rfl,by omega,rfl,by rw[List.length_take];omega,hb,fun h=>Bool.noConfusion h,fun _=>⟨by rw[hs,Ya Ai hlo hc],fun y hy=>by have:=hab y hy;rw[hc]at this;exact this⟩,rfl,rfl⟩
        |exact again.mk ⟨_,by omega,i+1,_,_,_,_,_,P.take i++[P[i]],rfl,by omega,by rw[List.length_append,List.length_singleton],by rw[List.length_append,List.length_singleton,List.length_take];omega,fun h=>Bool.noConfusion h,fun _=>⟨hs.symm,htk hlo (by assumption)⟩,fun h=>Bool.noConfusion h,rfl,rfl⟩
  ·obtain⟨rfl,hhi⟩:=ht rfl
   have hgt:Op.bytesLess key (P[i]).key=true:=hhi _ (by rw[List.drop_eq_getElem_cons hlt];exact List.mem_cons_self)
   (conv=>whnf);repeat' (first|(refine Dt (x:=P[i]) Uf (by simp) (by simp;omega) ?_;conv=>whnf)|refine kA ?_;conv=>whnf|(apply Br.mk<;>intro hc<;>first|exact hc.elim|conv=>whnf)|refine kB ?_)
   all_goals first
        |(exfalso;rw[hc,Ai.Oc]at hgt;cases hgt)
        |exact again.mk ⟨_,by omega,i+1,_,_,_,_,_,Cc Op.bytesLess GP.key key (P.take i)++[P[i]],rfl,by omega,by simp,by simp;omega,fun h=>Bool.noConfusion h,fun h=>Bool.noConfusion h,fun _=>⟨by rw[hs,Yc Ai hgt],fun y hy=>Ai.tr _ _ _ hgt (hab y hy)⟩,rfl,rfl⟩
 ·obtain rfl:i=P.length:=by omega
  rw[List.take_length]at hd ht
  cases d
  ·obtain⟨rfl,hlo⟩:=hd rfl
   rw[VX Ai hlo]
   (conv=>whnf);repeat' (first|(refine Aa h0 ?_;rintro _ rfl;conv=>whnf)|refine kA ?_;conv=>whnf|(apply Br.mk<;>intro hc<;>first|exact hc.elim|conv=>whnf)|refine kB ?_)
   all_goals first|(exfalso;omega)|(refine ⟨b,hb,congrArg (fun z=>AV.BG [AV.sl b _,AV.bool z]) ?_⟩;symm;first|exact decide_eq_true (by omega)|exact decide_eq_false (by omega))
  ·obtain⟨rfl,_⟩:=ht rfl
   (conv=>whnf);repeat' (first  |refine kA ?_;conv=>whnf|(apply Br.mk<;>intro hc<;>first|exact hc.elim|conv=>whnf)|refine kB ?_)
   all_goals first|(exfalso;omega)|(refine ⟨b,hb,congrArg (fun z=>AV.BG [AV.sl b _,AV.bool z]) ?_⟩;symm;first|exact decide_eq_true (by omega)|exact decide_eq_false (by omega))
theorem Ag2 {l:List (List UInt8)} {nn:Bool} {x:List UInt8} (hl:l.length≤100000) (hI:Inc Op.bytesLess id l):Ag (Ac tab) 128 [.sl nn (vs .str l),.str x] (fun v=>∃b,(b=false→Cc Op.bytesLess id x l=[])∧v=.sl b (vs .str (Cc Op.bytesLess id x l))):=by
 rw[OL Ai hI]
 refine Ad rfl rfl ?_
 (conv=>whnf);repeat' (first  |refine kA ?_;conv=>whnf|(apply Br.mk<;>intro hc<;>first|exact hc.elim|conv=>whnf)|refine kB ?_)
 refine Af (fun m env s=>∃(i c go k:Nat) (b:Bool) (r:List (List UInt8)),m=l.length-i∧i≤l.length∧k=r.length∧r.length≤i∧(b=false→r=[])∧r=(l.take i).filter (fun a=>decide (id a≠x))∧env=[(0,.sl nn (vs .str l)),(1,.str x),(5,.own 0 go 0 k),(6,.int .i64 i)]∧s=⟨[.arr go 1 b true (vs .str r)],c⟩) ?_ _ _ _ ⟨0,_,_,0,_,[],rfl,by omega,rfl,by simp,fun _=>rfl,by simp,rfl,rfl⟩
 rintro _ _ _ ⟨i,c,go,k,b,r,rfl,hi,hk,hr,hb,hx,rfl,rfl⟩
 refine⟨rfl,?_⟩
 by_cases hlt:i<l.length
 ·have hs:=List.take_succ_eq_append_getElem hlt
  (conv=>whnf);repeat' (first|(refine Dt (x:=l[i]) (fun _=>rfl) hk (by omega) ?_;conv=>whnf)|refine kA ?_;conv=>whnf|(apply Br.mk<;>intro hc<;>first|exact hc.elim|conv=>whnf)|refine kB ?_)
  ·exact again.mk ⟨_,by omega,i+1,_,_,_,_,r,rfl,by omega,hk,by omega,hb,by rw[hs,List.filter_append,←hx,List.filter_cons_of_neg (by simpa using hc),List.filter_nil,List.append_nil],rfl,rfl⟩
  ·exact again.mk ⟨_,by omega,i+1,_,_,_,_,r++[l[i]],rfl,by omega,by simp,by simp;omega,fun h=>Bool.noConfusion h,by rw[hs,List.filter_append,←hx,List.filter_cons_of_pos (by simpa using hc),List.filter_nil],rfl,rfl⟩
 ·subst hk
  rw[List.take_of_length_le (by omega)]at hx
  (conv=>whnf);repeat' (first  |refine kA ?_;conv=>whnf|(apply Br.mk<;>intro hc<;>first|exact hc.elim|conv=>whnf)|refine kB ?_)
  subst hx
  exact⟨b,hb,by first|rfl|(rw [uV])⟩
theorem Akz {l:List (List UInt8)} {nn:Bool} {x:List UInt8} (hl:l.length≤100000) (hI:Inc Op.bytesLess id l) (hx:x∉l):Ag (Ac tab) 127 [.sl nn (vs .str l),.str x] (· =.sl true (vs .str (A8 Op.bytesLess id x l))):=by
 have hfin:∀i,i≤l.length→(∀ j (h:j<l.length),j<i→Op.bytesLess l[j] x=true)→(∀ h:i<l.length,Op.bytesLess l[i] x=false)→l.take i++[x]++l.drop i=A8 Op.bytesLess id x l:=by
  intro i hi hlo hhi
  refine AtK.ins Ai ⟨hi,hlo,fun j hj hij=>?_⟩ (fun y hy e=>hx (by cases e;exact hy))
  rcases Nat.lt_or_ge i j with h1|h1
  ·have h2:=hI.get h1 hj
   cases h3:Op.bytesLess (id l[j]) (id x)with
   |false=>rfl
   |true=>have:=Ai.tr _ _ _ h2 h3;have h4:=hhi (by omega);exact absurd this (by rw[show Op.bytesLess (id l[i]) (id x)=false from h4];exact Bool.noConfusion)
  ·obtain rfl:i=j:=by omega
   exact hhi hj
 refine Ad rfl rfl ?_
 (conv=>whnf);repeat' (first  |refine kA ?_;conv=>whnf|(apply Br.mk<;>intro hc<;>first|exact hc.elim|conv=>whnf)|refine kB ?_)
 refine Af (fun m env s=>∃(i c go:Nat) (b:Bool),m=l.length-i∧i≤l.length∧(∀ j (h:j<l.length),j<i→Op.bytesLess l[j] x=true)∧env=[(0,.sl nn (vs .str l)),(1,.str x),(5,.own 0 go 0 0),(6,.int .i64 i)]∧s=⟨[.arr go 1 b true (vs .str [])],c⟩) ?_ _ _ _ ⟨0,_,_,_,rfl,by omega,fun j _ h=>absurd h (by omega),rfl,rfl⟩
 rintro _ _ _ ⟨i,c,go,b,rfl,hi,hlo,rfl,rfl⟩
 refine⟨rfl,?_⟩
 have h1:=hfin i hi hlo
 have hne:∀h:i<l.length,l[i]≠x:=fun h e=>hx (by rw[← e];exact List.getElem_mem h)
 (conv=>whnf);repeat' (first|((with_reducible show need _ _);refine need.mk ⟨by (try rw[lV]);omega,by(try rw[lV]);omega⟩ ?_;conv=>whnf)|((with_reducible show need _ _);refine need.mk (Ey AcH _) ?_;conv=>whnf)|((with_reducible show eqK _ _);apply BK;(· exact Ik _ _ _);conv=>whnf)|(refine AuQ rfl AcH (by first|rfl|(simp;done)|(simp;omega)) (by simp;omega) (by first|assumption|exact fun _=>rfl|exact fun h=>Bool.noConfusion h) ?_;intro b1 hb1;conv=>whnf)|(refine Dt (x:=x) AcH (by first|rfl|(simp;done)|(simp;omega)) (by simp;omega) ?_;conv=>whnf)|refine kA ?_;conv=>whnf|(apply Br.mk<;>intro hc<;>first|exact hc.elim|conv=>whnf)|refine kB ?_)
 all_goals first
  |exact again.mk ⟨_,by omega,i+1,_,_,_,rfl,by omega,fun j h hj=>by
        by_cases e:j=i
        ·subst e;assumption
        ·exact hlo j h (by omega),rfl,rfl⟩
  |(exfalso;exact hne (by omega) (by assumption))
  |(cases b1
    ·exact absurd (hb1 rfl) (by simp)
    ·rw[AkJ]
     refine congrArg (fun z=>AV.sl true (vs .str z)) ?_
     rw[← h1 (fun h=>by first|assumption|(exfalso;omega))]
     simp[List.take_of_length_le])
end AI
end Go.Proofs.YthnehejdkajjhaaGreatDoor
