/- The reference's Apply and ApplyAll are the program's, but for flags. -/
import Derived.Test.YthnehejdkajjhaaGreatDoorKRcK
import Derived.Test.YthnehejdkajjhaaGreatDoorKApY
import Derived.Test.YthnehejdkajjhaaGreatDoorKCk8
set_option linter.unusedVariables false
set_option maxRecDepth 4000
namespace Go.Proofs.YthnehejdkajjhaaGreatDoor
namespace AI
theorem Tf.Lu {g:GG} (h:Tf g) {n:GN} (hm:∃m∈g.nodes,m.id=n.id):Tf {g with nodes:=A8 BX GN.id n g.nodes}:=
 ⟨fun x hx=>by
  rcases Bq Ak hx with rfl|hx
  ·obtain⟨m,hm,e⟩:=hm;have:=h.n m hm;rw[e]at this;exact this
  ·exact h.n x hx,h.e⟩
theorem Tf.Tn {g:GG} (h:Tf g) {n:GE} (hm:∃m∈g.edges,m.id=n.id):Tf {g with edges:=A8 BX GE.id n g.edges}:=
 ⟨h.n,fun x hx=>by
  rcases Bq Ak hx with rfl|hx
  ·obtain⟨m,hm,e⟩:=hm;have:=h.e m hm;rw[e]at this;exact this
  ·exact h.e x hx⟩
theorem max_lt {a b c:Int} (h:a<b):a<(if c>b then c else b):=by split<;>omega
theorem Aih {a b c:Int} (h:a<c):a<(if c>b then c else b):=by split<;>omega
theorem Tf.node {g:GG} (h:Tf g) {c:GC}:Tf (Ba g c).2:=by
 unfold Ba
 split
 ·split
  ·exact h
  split
  ·refine⟨fun x hx=>?_,h.e⟩
   rcases Bq Ak hx with rfl|hx
   ·exact Aih (by show c.id<c.id+1;omega)
   ·exact max_lt (h.n x hx)
  ·exact h
 split
 ·exact h
 rename_i n hf
 obtain⟨hn,hz⟩:=Et hf
 split
 ·split
  ·exact h
  ·exact⟨fun x hx=>h.n x (Ce hx),h.e⟩
 split
 ·split
  ·exact h
  split
  ·exact h.Lu ⟨n,hn,rfl⟩
  ·exact h
 split
 ·split
  ·exact h.Lu ⟨n,hn,rfl⟩
  ·exact h
 split
 ·exact h.Lu ⟨n,hn,rfl⟩
 split
 ·exact h.Lu ⟨n,hn,rfl⟩
 ·exact h
theorem Tf.edge {g:GG} (h:Tf g) {c:GC}:Tf (BD g c).2:=by
 unfold BD
 split
 ·split
  ·exact h
  split
  ·split
   ·refine⟨h.n,fun x hx=>?_⟩
    rcases Bq Ak hx with rfl|hx
    ·exact Aih (by show c.id<c.id+1;omega)
    ·exact max_lt (h.e x hx)
   ·exact h
  ·exact h
 split
 ·exact h
 rename_i n hf
 obtain⟨hn,hz⟩:=Et hf
 split
 ·exact⟨h.n,fun x hx=>h.e x (Ce hx)⟩
 split
 ·exact h.Tn ⟨n,hn,rfl⟩
 split
 ·exact h.Tn ⟨n,hn,rfl⟩
 ·exact h
theorem Tf.step {g:GG} (h:Tf g) {c:GC}:Tf (stepG g c).2:=by
 unfold stepG
 split
 ·exact h
 split
 ·exact h.node
 ·exact h.edge
theorem AdE {g:GG} (h:AZ g=0):Tf g:=by
 obtain⟨hf,hn,hN,hE⟩:=LU h
 refine⟨fun n hm=>?_,fun n hm=>?_⟩
 ·obtain⟨i,hi,rfl⟩:=List.getElem_of_mem hm
  exact(KP hi (hN i hi)).2.2.1
 ·obtain⟨i,hi,rfl⟩:=List.getElem_of_mem hm
  exact(MZ hi (hE i hi)).2.2.1
theorem JM {g h:GG} (e:BL g=BL h):g.nodes.length=h.nodes.length∧g.edges.length=h.edges.length:=by
 have h1:=congrArg (fun x=>x.nodes.length) e
 have h2:=congrArg (fun x=>x.edges.length) e
 simpa[BL]using And.intro h1 h2
theorem J6 {g h:GG} (e:BL g=BL h):g.nodes.map ET=h.nodes.map ET:=congrArg GG.nodes e
theorem J7 {g h:GG} (e:BL g=BL h):g.edges.map Gq=h.edges.map Gq:=congrArg GG.edges e
theorem Sm {g h:GG} (e:BL g=BL h):g.BF=h.BF∧g.BA=h.BA:=⟨congrArg (fun x=>x.BF) e,congrArg (fun x=>x.BA) e⟩
theorem Ao5 {g h:GG} (e:BL g=BL h) {P:GN→Prop} (hP:∀n,P (ET n)↔P n) (k:∀n∈g.nodes,P n):∀n∈h.nodes,P n:=by
 intro n hn
 have:ET n∈g.nodes.map ET:=by rw[J6 e];exact List.mem_map_of_mem hn
 obtain⟨m,hm,em⟩:=List.mem_map.1 this
 exact(hP n).1 (by rw[← em];exact(hP m).2 (k m hm))
theorem Aii {g h:GG} (e:BL g=BL h) {P:GE→Prop} (hP:∀n,P (Gq n)↔P n) (k:∀n∈g.edges,P n):∀n∈h.edges,P n:=by
 intro n hn
 have:Gq n∈g.edges.map Gq:=by rw[J7 e];exact List.mem_map_of_mem hn
 obtain⟨m,hm,em⟩:=List.mem_map.1 this
 exact(hP n).1 (by rw[← em];exact(hP m).2 (k m hm))
theorem Vs {α:Type} {f:α→α} {key:α→Int} (hk:∀a,key (f a)=key a) {l:List α}:Inc BX key (l.map f)↔Inc BX key l:=by
 unfold Inc
 rw[List.pairwise_map]
 simp only[hk]
theorem Ef.sam {g h:GG} (e:BL g=BL h) (a:Ef g):Ef h where
 lN:=by rw[← (JM e).1];exact a.lN
 lE:=by rw[← (JM e).2];exact a.lE
 iN:=by have:=a.iN;rw[← Vs Rw,J6 e,Vs Rw]at this;exact this
 iE:=by have:=a.iE;rw[← Vs Rx,J7 e,Vs Rx]at this;exact this
 aN:=Ao5 e (P:=YE) (fun n=>⟨fun h=>⟨h.1,h.2,h.3,h.4⟩,fun h=>⟨h.1,h.2,h.3,h.4⟩⟩) a.aN
 aE:=Aii e (P:=YF) (fun n=>⟨fun h=>⟨h.1,h.2⟩,fun h=>⟨h.1,h.2⟩⟩) a.aE
 bx:=by rw[← (Sm e).1];exact a.bx
 by_:=by rw[← (Sm e).2];exact a.by_
theorem Tf.sam {g h:GG} (e:BL g=BL h) (a:Tf g):Tf h where
 n:=Ao5 e (P:=fun n=>n.id<h.BF) (fun n=>Iff.rfl) (by rw[← (Sm e).1];exact a.n)
 e:=Aii e (P:=fun n=>n.id<h.BA) (fun n=>Iff.rfl) (by rw[← (Sm e).2];exact a.e)
theorem LY:EP.ok:=⟨by simp[Ln,EP],fun _=>rfl,by simp[EP],by simp[Ln,EP],fun _=>rfl,by simp[EP],by unfold I64 EP;dsimp only;omega,by unfold I64 EP;dsimp only;omega⟩
end AI
end Go.Proofs.YthnehejdkajjhaaGreatDoor
