/- Soundness, first part: constants, operands, how the invariant outlives an allocation and a store. Soundness, second part: the invariant over a new object, over a changed object. Soundness, third part: reading operations. Soundness, fourth part: comparisons and arithmetic. Soundness, fifth part: the other operations that leave the world alone. -/
import Derived.Test.YtiimoiecghmebaaDoorFRep
import Derived.ProofKit
import Derived.Laws.StructEq
namespace Go.Proofs.YtiimoiecghmebaaDoor
namespace AI
open Go.RowKit
variable {B:Nat} {w w' w0:World} {Z Z':Bh} {φ φ':D8} {ctr BX:Nat}
theorem Og {v:Value} {a:AV} (h:Oh v=some a):Rep w Z φ ctr a v∧a.one=true∧a.closed=true:=by
 unfold Oh at h
 split at h
 case h_9 f fs cs=>
  split at h
  ·rename_i hz
   simp only[Option.some.injEq]at h
   subst h
   obtain rfl:fs=#[]:=by simpa using hz.1
   obtain rfl:cs=#[]:=by simpa using hz.2
   exact⟨.fn _ [] #[] rfl (fun i c hi=>by simp at hi),rfl,rfl⟩
  ·cases h
 all_goals (simp only[Option.some.injEq,reduceCtorEq]at h<;>subst h)
 ·exact⟨.bool _,rfl,rfl⟩
 ·exact⟨.int _ _,rfl,rfl⟩
 ·exact⟨.str _ _ rfl,rfl,rfl⟩
 ·exact⟨.EI,rfl,rfl⟩
 ·exact⟨.IL,rfl,rfl⟩
 ·exact⟨.Cj,rfl,rfl⟩
 ·exact⟨.ET,rfl,rfl⟩
 ·exact⟨.Gl,rfl,rfl⟩
theorem Oi:∀{vs:List Value} {as:List AV},ofValues vs=some as→as.length=vs.length∧∀(i:Nat) (a:AV),as[i]?=some a→∃v,vs[i]?=some v∧Rep w Z φ ctr a v∧a.one=true∧a.closed=true
 |[],as,h=>by
  simp only[ofValues,Option.some.injEq]at h
  subst h
  exact⟨rfl,fun i a hi=>by simp at hi⟩
 |v::vs,as,h=>by
  simp only[ofValues]at h
  split at h
  ·rename_i a r h1 h2
   simp only[Option.some.injEq]at h
   subst h
   obtain⟨hl,hr⟩:=Oi h2
   refine⟨by simp[hl],fun i x hi=>?_⟩
   cases i with
   |zero=>
    simp only[List.getElem?_cons_zero,Option.some.injEq]at hi
    subst hi
    exact⟨v,rfl,Og h1⟩
   |succ i=>exact hr i x (by simpa using hi)
  ·cases h
theorem F8 {vs:Array Value} {i:Nat} {v:Value} (h:vs.toList[i]?=some v):vs.getD i undef=v:=by
 have h':vs[i]?=some v:=by simpa using h
 simp[Array.getD_eq_getD_getElem?,h']
theorem Du {v:Value} {a:AV} (h:ofValue v=some a):Rep w Z φ ctr a v∧a.closed=true∧a.storable=true:=by
 unfold ofValue at h
 split at h
 ·rename_i cs
  cases h2:ofValues cs.toList with
  |none=>simp[h2]at h
  |some as=>
   simp only[h2,Option.map_some,Option.some.injEq]at h
   subst h
   obtain⟨hl,hr⟩:=Oi (w:=w) (Z:=Z) (φ:=φ) (ctr:=ctr) h2
   refine⟨.agg as cs (by simpa using hl) (fun i c hi=>?_) (fun i c hi=>?_),Dj fun i c hi=>?_,rfl⟩
   ·obtain⟨_,_,_,h3,_⟩:=hr i c hi;exact h3
   ·obtain⟨v,h1,h3,_⟩:=hr i c hi;rw[F8 h1];exact h3
   ·obtain⟨_,_,_,_,h3⟩:=hr i c hi;exact h3
 ·obtain⟨h1,h2,h3⟩:=Og (w:=w) (Z:=Z) (φ:=φ) (ctr:=ctr) h
  refine⟨h1,h3,?_⟩
  cases a<;>simp_all [AV.one,AV.storable]
theorem Aa {env:Env} {a:Act} (hE:Ak w Z φ ctr env a.tmps) {x:Operand} {y:AO} (h:Ai x=some y):Rep w Z φ ctr (y.val env) (a.eval x):=by
 unfold Ai at h
 split at h
 ·simp only[Option.some.injEq]at h;subst h;exact hE _
 ·rename_i v
  cases h2:ofValue v with
  |none=>simp[h2]at h
  |some av=>
   simp only[h2,Option.map_some,Option.some.injEq]at h
   subst h
   exact(Du h2).1
 ·simp only[Option.some.injEq]at h;subst h
  exact .fn _ [] #[] rfl (fun i c hi=>by simp at hi)
 ·cases h
theorem KO {env:Env} {a:Act} (hE:Ak w Z φ ctr env a.tmps):∀{xs:List Operand} {ys:List AO},Bz xs=some ys→
 (vals env ys).length=(xs.map a.eval).length∧∀(i:Nat) (y:AV),(vals env ys)[i]?=some y→∃v,(xs.map a.eval)[i]?=some v∧Rep w Z φ ctr y v
 |[],ys,h=>by
  simp only[Bz,Option.some.injEq]at h
  subst h
  exact⟨rfl,fun i y hi=>by simp[vals]at hi⟩
 |x::xs,ys,h=>by
  simp only[Bz]at h
  split at h
  ·rename_i y r h1 h2
   simp only[Option.some.injEq]at h
   subst h
   obtain⟨hl,hr⟩:=KO hE h2
   refine⟨by simp[vals,hl],fun i z hi=>?_⟩
   cases i with
   |zero=>
    simp only[vals,List.getElem?_cons_zero,Option.some.injEq]at hi
    subst hi
    exact⟨_,by simp,Aa hE h1⟩
   |succ i=>exact hr i z (by simpa[vals]using hi)
  ·cases h
theorem Rep.FI {a:AV} {v:Value} (r:Rep w Z φ ctr a v) (hs:a.storable=true):
 a.cells.length=v.cells.size∧∀(j:Nat) (c:AV),a.cells[j]?=some c→∃x,v.cells[j]?=some x∧Rep w Z φ ctr c x∧c.one=true:=by
 cases r with
 |agg cs vs hl ho hr=>
  refine⟨hl,fun j c hj=>⟨vs.getD j Go.undef,?_,hr j c hj,ho j c hj⟩⟩
  have:j<vs.size:=by
   have:=(List.getElem?_eq_some_iff.1 hj).1
   simp only[AV.cells]at this;omega
  simp[Value.cells,Array.getD_eq_getD_getElem?,Array.getElem?_eq_getElem this]
 |Dy=>simp[AV.storable]at hs
 |undef=>simp[AV.storable]at hs
 |junk=>simp[AV.storable]at hs
 |bool b=>exact⟨rfl,fun j c hj=>by cases j<;>simp[AV.cells]at hj;subst hj;exact⟨_,rfl,.bool b,rfl⟩⟩
 |int k n=>exact⟨rfl,fun j c hj=>by cases j<;>simp[AV.cells]at hj;subst hj;exact⟨_,rfl,.int k n,rfl⟩⟩
 |str s l h=>exact⟨rfl,fun j c hj=>by cases j<;>simp[AV.cells]at hj;subst hj;exact⟨_,rfl,.str s l h,rfl⟩⟩
 |EI=>exact⟨rfl,fun j c hj=>by cases j<;>simp[AV.cells]at hj;subst hj;exact⟨_,rfl,.EI,rfl⟩⟩
 |sl xs n b off cap es f hn hcap hes hsz hc hr=>exact⟨rfl,fun j c hj=>by cases j<;>simp[AV.cells]at hj;subst hj;exact⟨_,rfl,.sl xs n b off cap es f hn hcap hes hsz hc hr,rfl⟩⟩
 |sl0 a0=>exact⟨rfl,fun j c hj=>by cases j<;>simp[AV.cells]at hj;subst hj;exact⟨_,rfl,.sl0 a0,rfl⟩⟩
 |zc a0=>exact⟨rfl,fun j c hj=>by cases j<;>simp[AV.cells]at hj;subst hj;exact⟨_,rfl,.zc a0,rfl⟩⟩
 |own o g off len b es size cap a hg hφ hcap ha hs'=>exact⟨rfl,fun j c hj=>by cases j<;>simp[AV.cells]at hj;subst hj;exact⟨_,rfl,.own o g off len b es size cap a hg hφ hcap ha hs',rfl⟩⟩
 |BP o g hg hφ=>exact⟨rfl,fun j c hj=>by cases j<;>simp[AV.cells]at hj;subst hj;exact⟨_,rfl,.BP o g hg hφ,rfl⟩⟩
 |Dz o g a0 hg hφ=>exact⟨rfl,fun j c hj=>by cases j<;>simp[AV.cells]at hj;subst hj;exact⟨_,rfl,.Dz o g a0 hg hφ,rfl⟩⟩
 |ref o g i off b es size hg hφ=>exact⟨rfl,fun j c hj=>by cases j<;>simp[AV.cells]at hj;subst hj;exact⟨_,rfl,.ref o g i off b es size hg hφ,rfl⟩⟩
 |CS cs b off f hc hr=>exact⟨rfl,fun j c hj=>by cases j<;>simp[AV.cells]at hj;subst hj;exact⟨_,rfl,.CS cs b off f hc hr,rfl⟩⟩
 |fn f cs vs hl hr=>exact⟨rfl,fun j c hj=>by cases j<;>simp[AV.cells]at hj;subst hj;exact⟨_,rfl,.fn f cs vs hl hr,rfl⟩⟩
 |map o g b es size hg hφ=>exact⟨rfl,fun j c hj=>by cases j<;>simp[AV.cells]at hj;subst hj;exact⟨_,rfl,.map o g b es size hg hφ,rfl⟩⟩
 |fmap ents b es clock f hz hw hst hn hf hk hv=>exact⟨rfl,fun j c hj=>by cases j<;>simp[AV.cells]at hj;subst hj;exact⟨_,rfl,.fmap ents b es clock f hz hw hst hn hf hk hv,rfl⟩⟩
 |iface t v x hr=>exact⟨rfl,fun j c hj=>by cases j<;>simp[AV.cells]at hj;subst hj;exact⟨_,rfl,.iface t v x hr,rfl⟩⟩
 |IL=>exact⟨rfl,fun j c hj=>by cases j<;>simp[AV.cells]at hj;subst hj;exact⟨_,rfl,.IL,rfl⟩⟩
 |Cj=>exact⟨rfl,fun j c hj=>by cases j<;>simp[AV.cells]at hj;subst hj;exact⟨_,rfl,.Cj,rfl⟩⟩
 |ET=>exact⟨rfl,fun j c hj=>by cases j<;>simp[AV.cells]at hj;subst hj;exact⟨_,rfl,.ET,rfl⟩⟩
 |Gl=>exact⟨rfl,fun j c hj=>by cases j<;>simp[AV.cells]at hj;subst hj;exact⟨_,rfl,.Gl,rfl⟩⟩
theorem Rep.oneCell {a:AV} {v:Value} (r:Rep w Z φ ctr a v) (h:a.one=true):v.oneCell'=true∧v.cells=#[v]:=by
 cases r<;>simp_all [AV.one,Value.oneCell',Value.cells]
theorem JU {a:AV} (h:a.closed=true):∀(j:Nat) (c:AV),a.cells[j]?=some c→c.closed=true:=by
 intro j c hj
 cases a<;>simp only[AV.cells]at hj
 case agg cs=>exact DL (by simpa[AV.closed]using h) j c hj
 all_goals (cases j<;>simp at hj;subst hj;exact h)
end AI
end Go.Proofs.YtiimoiecghmebaaDoor
namespace Go.Proofs.YtiimoiecghmebaaDoor
namespace AI
open Go.RowKit
variable {B:Nat} {w w' w0:World} {Z Z':Bh} {φ φ':D8} {ctr BX:Nat} {s s':Ag}
theorem Holds.later (hL:Later B w Z φ ctr w' Z' φ' BX) {c:Array Value} {es:Nat} {cl:Bool} {elems:List AV} (h:Holds w Z φ ctr c es cl elems):Holds w' Z' φ' BX c es cl elems:=by
 intro i x hx
 obtain⟨h1,h2⟩:=h i x hx
 refine⟨h1,fun j y hy=>?_⟩
 obtain⟨v,h3,h4,h5,h6⟩:=h2 j y hy
 exact⟨v,h3,h4.later hL,h5,h6⟩
theorem DI.place {ob:Obj} (h:DI w Z φ ctr B ob) {g b e n:Nat} (hg:ob.gen=some g) (hφ:φ g=.row b e n):b<w.heap.size∧B≤b:=by
 cases ob with
 |arr g' es nn cl elems=>
  simp only[Obj.gen,Option.some.injEq]at hg
  subst hg
  obtain⟨_,_,h3⟩:=h
  rw[hφ]at h3
  obtain⟨_,_,h4,_,_,c,t,h5,_⟩:=h3
  refine⟨?_,h4⟩
  exact(Array.getElem?_eq_some_iff.1 h5).1
 |mp g' cl ents=>
  simp only[Obj.gen,Option.some.injEq]at hg
  subst hg
  obtain⟨_,b',es,size,h3,h4,c,t,h5,_⟩:=h
  rw[hφ]at h3
  simp only[NQ.row.injEq]at h3
  obtain⟨rfl,_⟩:=h3
  exact⟨(Array.getElem?_eq_some_iff.1 h5).1,h4⟩
 |raw g' x=>
  simp only[Obj.gen,Option.some.injEq]at hg
  subst hg
  obtain⟨_,b',es,size,h3,h4,h5,_⟩:=h
  rw[hφ]at h3
  simp only[NQ.row.injEq]at h3
  obtain⟨rfl,_⟩:=h3
  exact⟨(Array.getElem?_eq_some_iff.1 h5).1,h4⟩
 |dead=>simp[Obj.gen]at hg
theorem DI.Acb {ob:Obj} (h:DI w Z φ ctr B ob) {g:Nat} (hg:ob.gen=some g):g<ctr:=by
 cases ob with
 |arr g' es nn cl elems=>simp only[Obj.gen,Option.some.injEq]at hg;subst hg;exact h.1
 |mp g' cl ents=>simp only[Obj.gen,Option.some.injEq]at hg;subst hg;exact h.1
 |raw g' x=>simp only[Obj.gen,Option.some.injEq]at hg;subst hg;exact h.1
 |dead=>simp[Obj.gen]at hg
theorem DI.step {ob:Obj} (h:DI w Z φ ctr B ob) (hL:Later B w Z φ ctr w' Z' φ' BX)
 (hblk:∀g b e n,ob.gen=some g→φ g=.row b e n→w'.heap[b]?=w.heap[b]?∧∀i,Z' b i→Z b i):DI w' Z' φ' BX B ob:=by
 cases ob with
 |arr g es nn cl elems=>
  obtain⟨h1,h2,h3⟩:=h
  refine⟨Nat.lt_of_lt_of_le h1 hL.mono,h2,?_⟩
  rw[hL.phi g h1]
  cases hφ:φ g with
  |nil=>rw[hφ]at h3;exact h3
  |zc=>rw[hφ]at h3;exact h3
  |pend=>rw[hφ]at h3;exact h3
  |row b e n=>
   rw[hφ]at h3
   obtain⟨h4,h5,h6,h7,h8,c,t,h9,h10,h11⟩:=h3
   obtain⟨hb1,hb2⟩:=hblk g b e n rfl hφ
   exact⟨h4,h5,h6,fun i hz=>h7 i (hb2 i hz),h8,c,t,hb1.trans h9,h10,h11.later hL⟩
 |mp g cl ents=>
  obtain⟨h1,b,es,size,h3,h4,es',clock,h5,h6,h7⟩:=h
  refine⟨Nat.lt_of_lt_of_le h1 hL.mono,b,es,size,(hL.phi g h1).trans h3,h4,es',clock,(hblk g b es size rfl h3).1.trans h5,⟨h6.1,fun i hz=>h6.2 i ((hblk g b es size rfl h3).2 i hz)⟩,fun i e he=>?_⟩
  obtain⟨e',k1,k2,k3,k4,k5⟩:=h7 i e he
  exact⟨e',k1,k2.later hL,k3.later hL,k4,k5⟩
 |raw g x=>
  obtain⟨h1,b,es,size,h3,h4,h5,h6⟩:=h
  exact⟨Nat.lt_of_lt_of_le h1 hL.mono,b,es,size,(hL.phi g h1).trans h3,h4,(hblk g b es size rfl h3).1.trans h5,fun i hz=>h6 i ((hblk g b es size rfl h3).2 i hz)⟩
 |dead=>trivial
theorem Inv.push (hI:Inv w0 B s Z φ w) (hbel:Below w.heap.size w w') (hL:Later B w Z φ s.ctr w' Z' φ' (s.ctr+1))
 (hZ:∀b i,Z' b i→Z b i∨w.heap.size≤b) (hlive:∀b i,Z' b i→b<w'.heap.size) {ob:Obj} (hob:DI w' Z' φ' (s.ctr+1) B ob)
 (hgen:ob.gen=some s.ctr) (hnew:∀b e n,φ' s.ctr=.row b e n→w.heap.size≤b):Inv w0 B (AI.push s ob) Z' φ' w':=by
 have old:∀(o:Nat) (ob':Obj),s.σ[o]?=some ob'→DI w' Z' φ' (s.ctr+1) B ob':=by
  intro o ob' ho
  refine(hI.objs o ob' ho).step hL fun g b e n hg hφ=>?_
  have hb:=((hI.objs o ob' ho).place hg hφ).1
  refine⟨hbel.block b hb,fun i hz=>?_⟩
  rcases hZ b i hz with h|h
  ·exact h
  ·omega
 have look:∀(o:Nat) (ob':Obj),(AI.push s ob).σ[o]?=some ob'→s.σ[o]?=some ob'∨(o=s.σ.length∧ob'=ob):=by
  intro o ob' ho
  simp only[AI.push]at ho
  rcases Nat.lt_trichotomy o s.σ.length with h|h|h
  ·rw[List.getElem?_append_left h]at ho;exact .inl ho
  ·subst h;simp at ho;exact .inr ⟨rfl,ho.symm⟩
  ·rw[List.getElem?_eq_none (by simp;omega)]at ho;cases ho
 refine⟨hI.below.trans (hbel.mono hI.base),Nat.le_trans hI.base hbel.size,fun o ob' ho=>?_,fun o o' VD YH g g' b e n e' n' h1 h2 hg hg' hp hp'=>?_,hlive⟩
 ·rcases look o ob' ho with h|⟨_,rfl⟩
  ·exact old o ob' h
  ·exact hob
 ·have VE:∀(o:Nat) (ob':Obj) (g b e n:Nat),s.σ[o]?=some ob'→ob'.gen=some g→φ' g=.row b e n→φ g=.row b e n∧b<w.heap.size:=by
   intro o ob' g b e n ho hg hp
   have hlt:=(hI.objs o ob' ho).Acb hg
   rw[hL.phi g hlt]at hp
   exact⟨hp,((hI.objs o ob' ho).place hg hp).1⟩
  rcases look o VD h1 with k|⟨ko,kb⟩<;>rcases look o' YH h2 with k'|⟨ko',kb'⟩
  ·exact hI.apart o o' VD YH g g' b e n e' n' k k' hg hg' (VE _ _ _ _ _ _ k hg hp).1 (VE _ _ _ _ _ _ k' hg' hp').1
  ·subst kb'
   rw[hgen]at hg'
   cases hg'
   have:=hnew b e' n' hp'
   have:=(VE _ _ _ _ _ _ k hg hp).2
   omega
  ·subst kb
   rw[hgen]at hg
   cases hg
   have:=hnew b e n hp
   have:=(VE _ _ _ _ _ _ k' hg' hp').2
   omega
  ·rw[ko,ko']
theorem Inv.set (hI:Inv w0 B s Z φ w) {o:Nat} {old ob:Obj} (hold:s.σ[o]?=some old) (hbel:Below B w w') (hL:Later B w Z φ s.ctr w' Z' φ' BX)
 (hlive:∀b i,Z' b i→b<w'.heap.size)
 (hblk:∀(o':Nat) (ob':Obj) (g b e n:Nat),o'≠o→s.σ[o']?=some ob'→ob'.gen=some g→φ g=.row b e n→w'.heap[b]?=w.heap[b]?∧∀i,Z' b i→Z b i)
 (hob:DI w' Z' φ' BX B ob)
 (Acd:∀g b e n,ob.gen=some g→φ' g=.row b e n→w.heap.size≤b∨∃g' e' n',old.gen=some g'∧φ g'=.row b e' n'):
 Inv w0 B ⟨s.σ.set o ob,BX⟩ Z' φ' w':=by
 have ho:o<s.σ.length:=(List.getElem?_eq_some_iff.1 hold).1
 have look:∀(o':Nat) (ob':Obj),(s.σ.set o ob)[o']?=some ob'→(o'≠o∧s.σ[o']?=some ob')∨(o'=o∧ob'=ob):=by
  intro o' ob' h
  by_cases e:o'=o
  ·subst e
   rw[List.getElem?_set_self ho]at h
   exact .inr ⟨rfl,(Option.some.inj h).symm⟩
  ·rw[List.getElem?_set_ne (fun h=>e h.symm)]at h
   exact .inl ⟨e,h⟩
 refine⟨hI.below.trans hbel,Nat.le_trans hI.base hbel.size,fun o' ob' h=>?_,fun o1 o2 VD YH g g' b e n e' n' h1 h2 hg hg' hp hp'=>?_,hlive⟩
 ·rcases look o' ob' h with⟨hne,k⟩|⟨_,rfl⟩
  ·exact(hI.objs o' ob' k).step hL fun g b e n hg hφ=>hblk o' ob' g b e n hne k hg hφ
  ·exact hob
 ·have VE:∀(o:Nat) (ob':Obj) (g b e n:Nat),s.σ[o]?=some ob'→ob'.gen=some g→φ' g=.row b e n→φ g=.row b e n∧b<w.heap.size:=by
   intro o ob' g b e n ho hg hp
   have hlt:=(hI.objs o ob' ho).Acb hg
   rw[hL.phi g hlt]at hp
   exact⟨hp,((hI.objs o ob' ho).place hg hp).1⟩
  rcases look o1 VD h1 with⟨n1,k⟩|⟨ko,kb⟩<;>rcases look o2 YH h2 with⟨n2,k'⟩|⟨ko',kb'⟩
  ·exact hI.apart o1 o2 VD YH g g' b e n e' n' k k' hg hg' (VE _ _ _ _ _ _ k hg hp).1 (VE _ _ _ _ _ _ k' hg' hp').1
  ·subst kb'
   have hq:=VE _ _ _ _ _ _ k hg hp
   rcases Acd g' b e' n' hg' hp' with hh|⟨g2,e2,n2',hg2,hp2⟩
   ·omega
   ·exact absurd (hI.apart o1 o VD old g g2 b e n e2 n2' k hold hg hg2 hq.1 hp2) n1
  ·subst kb
   have hq:=VE _ _ _ _ _ _ k' hg' hp'
   rcases Acd g b e n hg hp with hh|⟨g2,e2,n2',hg2,hp2⟩
   ·omega
   ·exact absurd (hI.apart o2 o YH old g' g2 b e' n' e2 n2' k' hold hg' hg2 hq.1 hp2) n2
  ·rw[ko,ko']
theorem EC (hI:Inv w0 B s Z φ w) (hbel:Below w.heap.size w w') (hZ:∀b i,Z b i→Z' b i) (hnew:∀b i,Z' b i→Z b i∨w.heap.size≤b)
 (hφ:∀g,g<s.ctr→φ' g=φ g) (hc:s.ctr≤BX):Later B w Z φ s.ctr w' Z' φ' BX:=
 ⟨fun b i h=>(hnew b i h).imp id fun h=>Nat.le_trans hI.base h,hc,hZ,fun b i h=>hbel.block b (hI.live b i h),hφ⟩
theorem Inv.grow (hI:Inv w0 B s Z φ w) (hbel:Below w.heap.size w w') (hZ:∀b i,Z b i→Z' b i) (hnew:∀b i,Z' b i→Z b i∨w.heap.size≤b)
 (hlive:∀b i,Z' b i→b<w'.heap.size):Inv w0 B s Z' φ w'∧Later B w Z φ s.ctr w' Z' φ s.ctr:=by
 have hL:Later B w Z φ s.ctr w' Z' φ s.ctr:=EC hI hbel hZ hnew (fun _ _=>rfl) (Nat.le_refl _)
 refine⟨⟨hI.below.trans (hbel.mono hI.base),Nat.le_trans hI.base hbel.size,fun o ob ho=>?_,hI.apart,hlive⟩,hL⟩
 refine(hI.objs o ob ho).step hL fun g b e n hg hφ=>?_
 have hb:=((hI.objs o ob ho).place hg hφ).1
 refine⟨hbel.block b hb,fun i hz=>?_⟩
 rcases hnew b i hz with h|h
 ·exact h
 ·omega
def Bd (φ:D8) (g:Nat) (p:NQ):D8:=fun h=>if h=g then p else φ h
theorem Af (φ:D8) (g:Nat) (p:NQ):Bd φ g p g=p:=by simp[Bd]
theorem ED (φ:D8) {g h:Nat} (p:NQ) (hlt:h<g):Bd φ g p h=φ h:=by
 unfold Bd;rw[if_neg (by omega)]
theorem Dv (w:World) (o:Go.Obj):Below w.heap.size w (w.alloc o):=(Below.refl _ _).alloc (Nat.le_refl _) o
theorem Inv.newRow (hI:Inv w0 B s Z φ w) (hbel:Below w.heap.size w w') {c:Array Value} {t:TypeId} {b:Nat} (hb:w.heap.size≤b) (hw:w'.heap[b]?=some (.cells c t (0,0))) {es:Nat} {cl:Bool} {elems:List AV} (hes:0<es) (hsz:elems.length*es≤c.size)
 (hH:Holds w Z φ s.ctr c es cl elems):
 Inv w0 B (AI.push s (.arr s.ctr es true cl elems)) Z (Bd φ s.ctr (.row b es c.size)) w'∧
 Later B w Z φ s.ctr w' Z (Bd φ s.ctr (.row b es c.size)) (s.ctr+1):=by
 have hL:Later B w Z φ s.ctr w' Z (Bd φ s.ctr (.row b es c.size)) (s.ctr+1):=
  EC hI hbel (fun _ _ h=>h) (fun _ _ h=>.inl h) (fun g hg=>ED φ _ hg) (by omega)
 refine⟨hI.push hbel hL (fun _ _ h=>.inl h) (fun b i h=>Nat.lt_of_lt_of_le (hI.live b i h) hbel.size) ?_ rfl ?_,hL⟩
 ·refine⟨by omega,hes,?_⟩
  rw[Af]
  refine⟨rfl,rfl,Nat.le_trans hI.base hb,fun i hz=>?_,hsz,c,t,hw,rfl,hH.later hL⟩
  have:=hI.live _ i hz
  omega
 ·intro b' e n h
  rw[Af]at h
  simp only[NQ.row.injEq]at h
  omega
end AI
end Go.Proofs.YtiimoiecghmebaaDoor
namespace Go.Proofs.YtiimoiecghmebaaDoor
namespace AI
open Go.RowKit
variable {P:Program} {B:Nat} {w w' w0:World} {Z Z':Bh} {φ φ':D8} {ctr BX:Nat} {s s':Ag}
def Aib (w0:World) (B:Nat) (w:World) (Z:Bh) (φ:D8) (ctr:Nat) (s':Ag) (v:AV) (r:Result Next):Prop:=
 ∃x w' Z' φ',(r=.ok (.value x) w'∨(r=.ok .skip w'∧x=undef))∧Inv w0 B s' Z' φ' w'∧Rep w' Z' φ' s'.ctr v x∧Later B w Z φ ctr w' Z' φ' s'.ctr
theorem Aib.same (hI:Inv w0 B s Z φ w) {v:AV} {x:Value} (hr:Rep w Z φ s.ctr v x):Aib w0 B w Z φ s.ctr s v (.ok (.value x) w):=
 ⟨x,w,Z,φ,.inl rfl,hI,hr,Later.refl _ _ _ _ _⟩
theorem DN {t:TypeId} {n:Nat} (h:Ba P t=some n):∃i,P.info? t=some i∧i.size=n∧0<n:=by
 unfold Ba at h
 split at h
 ·rename_i i hi
  split at h
  ·simp only[Option.some.injEq]at h;subst h;exact⟨i,hi,rfl,by assumption⟩
  ·cases h
 ·cases h
theorem run_sizeOf {t:TypeId} {n:Nat} (h:Ba P t=some n) (w:World):(sizeOf t).run P w=.ok n w:=by
 obtain⟨i,hi,hn,_⟩:=DN h
 simp[sizeOf,typeInfo,hi,hn]
def At (w:World) (Z:Bh) (φ:D8) (ctr:Nat) (cs:List AV) (b off:Nat):Prop:=
 ∀(j:Nat) (c:AV),cs[j]?=some c→∃x,w.cell? ⟨b,off+j,none⟩=some x∧Rep w Z φ ctr c x∧c.one=true
theorem At.drop {cs:List AV} {b off n:Nat} (h:At w Z φ ctr cs b off):At w Z φ ctr (cs.drop n) b (off+n):=by
 intro j c hj
 rw[List.getElem?_drop]at hj
 obtain⟨x,h1,h2,h3⟩:=h (n+j) c hj
 exact⟨x,by rw[Nat.add_assoc];exact h1,h2,h3⟩
theorem G6 {t:TypeId} {sz:Option Nat} (ht:szT P t=some sz) {cs:List AV} {b off:Nat} (h:At w Z φ ctr cs b off) {v:AV} (hv:AI.loadCells cs sz=some v):
 ∃x,(loadVar t ⟨b,off,none⟩).run P w=.ok x w∧Rep w Z φ ctr v x:=by
 have agg:∀n d,P.underlying t=some d→VG P t=true→Ba P t=some n→sz=some n→∃x,(loadVar t ⟨b,off,none⟩).run P w=.ok x w∧Rep w Z φ ctr v x:=by
  intro n d hu ha hc hsz
  subst hsz
  simp only[AI.loadCells]at hv
  split at hv
  ·rename_i hn
   simp only[Option.some.injEq]at hv
   subst hv
   let f:Nat→Value:=fun j=>(w.cell? ⟨b,off+j,none⟩).getD undef
   have hf:∀j,j<n→w.cell? ((⟨b,off,none⟩:Addr).add j)=some (f j):=by
        intro j hj
        obtain⟨x,h1,_,_⟩:=h j cs[j] (List.getElem?_eq_getElem (by omega))
        rw[Addr.add_lit]
        simp[f,h1]
   refine⟨.agg ((List.range n).map f).toArray,?_,?_⟩
   ·have hag:(isAgg t).run P w=.ok true w:=by
     simp only[isAgg,Sem.run_bind,run_underlying hu,Result.andThen_ok]
     unfold VG at ha
     rw[hu]at ha
     split at ha
     ·rename_i h2;simp only[Option.some.injEq]at h2;subst h2;rfl
     ·rename_i h2;simp only[Option.some.injEq]at h2;subst h2;rfl
     ·cases ha
    simp[loadVar,hag,run_sizeOf hc,run_loadCells w ⟨b,off,none⟩ n f hf]
   ·refine .agg _ _ (by simp;omega) (fun i c hi=>?_) (fun i c hi=>?_)
    all_goals
     have hi':i<n:=by
      have:=(List.getElem?_eq_some_iff.1 hi).1
      simp at this;omega
     rw[List.getElem?_take_of_lt hi']at hi
     obtain⟨x,h1,h2,h3⟩:=h i c hi
    ·exact h3
    ·have:((List.range n).map f).toArray.getD i undef=x:=by
      simp[Array.getD_eq_getD_getElem?,hi',f,h1]
     rw[this];exact h2
  ·cases hv
 unfold szT at ht
 split at ht
 ·rename_i fs n hu hc
  simp only[Option.some.injEq]at ht
  exact agg n _ hu (by simp[VG,hu]) hc ht.symm
 ·rename_i k e n hu hc
  simp only[Option.some.injEq]at ht
  exact agg n _ hu (by simp[VG,hu]) hc ht.symm
 ·rename_i d hns hna hu hc
  simp only[Option.some.injEq]at ht
  subst ht
  simp only[AI.loadCells,Aj]at hv
  obtain⟨x,h1,h2,_⟩:=h 0 v hv
  refine⟨x,?_,h2⟩
  have hag:(isAgg t).run P w=.ok false w:=by
   simp only[isAgg,Sem.run_bind,run_underlying hu,Result.andThen_ok]
   rfl
  simp only[Nat.add_zero]at h1
  simp[loadVar,hag,h1]
 ·cases ht
theorem DI.at {g es:Nat} {nn cl:Bool} {elems:List AV} (h:DI w Z φ ctr B (.arr g es nn cl elems)) {b e n:Nat} (hφ:φ g=.row b e n) {i:Nat} {x:AV} (hx:elems[i]?=some x):
 e=es∧At w Z φ ctr x.cells b (i*es):=by
 obtain⟨_,_,h3⟩:=h
 rw[hφ]at h3
 obtain⟨_,h4,_,_,_,c,t,h5,_,h6⟩:=h3
 refine⟨h4,fun j y hj=>?_⟩
 obtain⟨v,h7,h8,h9,_⟩:=(h6 i x hx).2 j y hj
 exact⟨v,by simp[World.cell?,h5,h7],h8,h9⟩
theorem Ace (hI:Inv w0 B s Z φ w) {o g i off:Nat} {v:Value} (hr:Rep w Z φ s.ctr (.ref o g i off) v) {es:Nat} {nn cl:Bool} {elems:List AV} (ho:s.σ[o]?=some (.arr g es nn cl elems)) {x:AV} (hx:elems[i]?=some x):
 ∃b,v=.pointer (some ⟨b,i*es+off,none⟩)∧At w Z φ s.ctr (x.cells.drop off) b (i*es+off):=by
 cases hr with
 |ref _ _ _ _ b e n hg hφ=>
  obtain⟨he,hat⟩:=(hI.objs o _ ho).at hφ hx
  subst he
  exact⟨b,rfl,hat.drop⟩
theorem VH {cs:List AV} {v:Value} (hr:Rep w Z φ ctr (.CS cs) v):∃b off,v=.pointer (some ⟨b,off,none⟩)∧At w Z φ ctr cs b off:=by
 cases hr with
 |CS _ b off f hc hr=>exact⟨b,off,rfl,fun j c hj=>⟨f j,(hc j c hj).2.1,hr j c hj,(hc j c hj).2.2.2⟩⟩
variable {a:Act} {o:Oper} {env:Env}
theorem Acf (hI:Inv w0 B s Z φ w) {t:TypeId} {sz:Option Nat} {x:Value} {y v:AV} (ht:szT P t=some sz) (hr:Rep w Z φ s.ctr y x) {C:Aq} {s':Ag} {ao:AO} (hao:ao.val env=y) (hev:Ae C (.load sz ao) env s=some (.ok v,s')):
 ∃z,(Instr.loadAt t x).run P w=.ok z w∧Rep w Z φ s.ctr v z∧s'=s:=by
 simp only[Ae,hao]at hev
 split at hev
 ·rename_i cs
  unfold ok at hev
  cases hl:AI.loadCells cs sz with
  |none=>simp[hl]at hev
  |some v'=>
   simp only[hl,Option.map_some,Option.some.injEq,Prod.mk.injEq,AL.ok.injEq]at hev
   obtain⟨rfl,rfl⟩:=hev
   obtain⟨b,off,rfl,hat⟩:=VH hr
   obtain⟨z,h1,h2⟩:=G6 (P:=P) ht hat hl
   exact⟨z,by simp[Instr.loadAt,Instr.sureAddr,h1],h2,rfl⟩
 ·rename_i o g i off
  split at hev
  ·rename_i g' es nn cl elems ho
   split at hev
   ·rename_i hg;subst hg
    split at hev
    ·rename_i x' hx
     rw[Aj]at ho hx
     unfold ok at hev
     cases hl:AI.loadCells (x'.cells.drop off) sz with
     |none=>simp[hl]at hev
     |some v'=>
      simp only[hl,Option.map_some,Option.some.injEq,Prod.mk.injEq,AL.ok.injEq]at hev
      obtain⟨rfl,rfl⟩:=hev
      obtain⟨b,rfl,hat⟩:=Ace hI hr ho hx
      obtain⟨z,h1,h2⟩:=G6 (P:=P) ht hat hl
      exact⟨z,by simp[Instr.loadAt,Instr.sureAddr,h1],h2,rfl⟩
    ·cases hev
   ·cases hev
  ·cases hev
 ·cases hev
theorem Rep.UF {cs:List AV} {b off:Nat} (hr:Rep w Z φ ctr (.CS cs) (.pointer (some ⟨b,off,none⟩))) (n:Nat):Rep w Z φ ctr (.CS (cs.drop n)) (.pointer (some ⟨b,off+n,none⟩)):=by
 cases hr with
 |CS _ _ _ f hc hr=>
  refine .CS _ b (off+n) (fun j=>f (n+j)) (fun j c hj=>?_) (fun j c hj=>?_)
  ·rw[List.getElem?_drop]at hj
   have:=hc (n+j) c hj
   rw[Nat.add_assoc];exact this
  ·rw[List.getElem?_drop]at hj
   exact hr (n+j) c hj
theorem AaI {t:TypeId} {fs:Array Field} {f off n:Nat} {fd:Field} {x:Value} {y v:AV} (hu:P.underlying t=some (.struct fs)) (hf:fs[f]?=some fd) (hn:Ba P fd.type=some n) (hr:Rep w Z φ s.ctr y x) {C:Aq} {s':Ag} {ao:AO} (hao:ao.val env=y) (hoff:fd.offset=off)
 (hev:Ae C (.PZ off ao) env s=some (.ok v,s')):
 ∃z,(Instr.fieldAt t x f).run P w=.ok z w∧Rep w Z φ s.ctr v z∧s'=s:=by
 subst hoff
 obtain⟨i,hi,hin,h0⟩:=DN hn
 have h0':i.size≠0:=by omega
 simp only[Ae,hao]at hev
 split at hev
 ·rename_i cs
  simp only[Option.some.injEq,Prod.mk.injEq,AL.ok.injEq]at hev
  obtain⟨rfl,rfl⟩:=hev
  obtain⟨b,off,rfl,hat⟩:=VH hr
  refine⟨.pointer (some ⟨b,off+fd.offset,none⟩),?_,hr.UF _,rfl⟩
  simp[Instr.fieldAt,run_underlying hu,hf,Instr.sureAddr,fieldPlace,run_sizeOf hn,Addr.add_lit,show n≠0 from by omega]
 ·rename_i o g j off'
  simp only[Option.some.injEq,Prod.mk.injEq,AL.ok.injEq]at hev
  obtain⟨rfl,rfl⟩:=hev
  cases hr with
  |ref _ _ _ _ b es size hg hφ=>
   refine⟨.pointer (some ⟨b,j*es+(off'+fd.offset),none⟩),?_,.ref _ _ _ _ b es size hg hφ,rfl⟩
   simp[Instr.fieldAt,run_underlying hu,hf,Instr.sureAddr,fieldPlace,run_sizeOf hn,Addr.add_lit,show n≠0 from by omega,Nat.add_assoc]
 ·cases hev
end AI
end Go.Proofs.YtiimoiecghmebaaDoor
namespace Go.Proofs.YtiimoiecghmebaaDoor
namespace AI
open Go.RowKit
variable {P:Program} {B:Nat} {w w' w0:World} {Z Z':Bh} {φ φ':D8} {ctr BX:Nat} {s s':Ag}
theorem Gu {t:TypeId} {k:IQ} (h:EJ P t=some k):(k=.bool∧P.underlying t=some .bool)∨(k=.int∧∃i,P.underlying t=some (.int i))∨(k=.str∧P.underlying t=some .string):=by
 unfold EJ at h
 split at h
 ·rename_i hu;cases h;exact .inl ⟨rfl,hu⟩
 ·rename_i i hu;cases h;exact .inr (.inl ⟨rfl,i,hu⟩)
 ·rename_i hu;cases h;exact .inr (.inr ⟨rfl,hu⟩)
 ·cases h
theorem Nk {t:TypeId} {k:IQ} (h:EJ P t=some k) {x y:AV} {vx vy:Value} (hx:Rep w Z φ ctr x vx) (hy:Rep w Z φ ctr y vy) {r:Bool} (hr:Cb k x y=some r) (d:Nat):
 (Op.equalIn (d+1) t vx vy).run P w=.ok r w:=by
 rcases Gu h with⟨rfl,hu⟩|⟨rfl,i,hu⟩|⟨rfl,hu⟩
 ·cases x<;>cases y<;>simp only[Cb,Option.some.injEq,reduceCtorEq]at hr
  cases hx;cases hy
  subst hr
  exact run_equalIn_bool' w d t _ _ hu
 ·cases x<;>cases y<;>simp only[Cb,reduceCtorEq]at hr
  split at hr
  ·rename_i hk;subst hk
   simp only[Option.some.injEq]at hr
   cases hx;cases hy
   subst hr
   exact run_equalIn_int w d t _ i _ _ hu
  ·cases hr
 ·cases x<;>cases y<;>simp only[Cb,Option.some.injEq,reduceCtorEq]at hr
  rename_i l1 l2
  cases hx with
  |str s1 _ h1=>cases hy with
   |str s2 _ h2=>
    subst hr
    rw[run_equalIn_string w d t _ _ hu,ByteArray.toList_eq,ByteArray.toList_eq,h1,h2]
theorem LQ {t:TypeId} {k:IQ} (h:EJ P t=some k) {vs:Array Value} {i:Nat} (hi:i<vs.size):(part t vs i).run P w=.ok (vs.getD i undef) w:=by
 have:(isAgg t).run P w=.ok false w:=by
  rcases Gu h with⟨rfl,hu⟩|⟨rfl,i,hu⟩|⟨rfl,hu⟩<;>simp[isAgg,run_underlying hu]
 simp[part,this,hi,Array.getD_eq_getD_getElem?]
theorem RH (d:Nat):∀{fs:List Field} {i:Nat} {ks:List IQ},UG P fs i=some ks→∀{xs ys:List AV} {vx vy:Array Value} {r:Bool},
 (∀ (j:Nat) (c:AV),xs[j]?=some c→Rep w Z φ ctr c (vx.getD (i+j) undef)∧i+j<vx.size)→
 (∀ (j:Nat) (c:AV),ys[j]?=some c→Rep w Z φ ctr c (vy.getD (i+j) undef)∧i+j<vy.size)→
 Df ks xs ys=some r→(Op.eqFields (d+1) vx vy fs).run P w=.ok r w
 |[],i,ks,h,xs,ys,vx,vy,r,hx,hy,hr=>by
  simp only[UG,Option.some.injEq]at h
  subst h
  cases xs<;>cases ys<;>simp only[Df,Option.some.injEq,reduceCtorEq]at hr
  subst hr
  simp[Op.eqFields]
 |f::fs,i,ks,h,xs,ys,vx,vy,r,hx,hy,hr=>by
  simp only[UG]at h
  split at h
  ·rename_i k ks' hk hks
   split at h
   ·rename_i hc
    simp only[Option.some.injEq]at h
    subst h
    cases xs with
    |nil=>simp[Df]at hr
    |cons x xs=>
     cases ys with
     |nil=>simp[Df]at hr
     |cons y ys=>
      simp only[Df]at hr
      obtain⟨hx0,hx1⟩:=hx 0 x rfl
      obtain⟨hy0,hy1⟩:=hy 0 y rfl
      have hnm : f.name ≠ "_" := by
       have:=hc.2.1
       simpa using this
      have hxs:∀(j:Nat) (c:AV),xs[j]?=some c→Rep w Z φ ctr c (vx.getD (i+1+j) undef)∧i+1+j<vx.size:=by
       intro j c hj
       have:=hx (j+1) c (by simpa using hj)
       rwa [show i+(j+1)=i+1+j from by omega]at this
      have hys:∀(j:Nat) (c:AV),ys[j]?=some c→Rep w Z φ ctr c (vy.getD (i+1+j) undef)∧i+1+j<vy.size:=by
       intro j c hj
       have:=hy (j+1) c (by simpa using hj)
       rwa [show i+(j+1)=i+1+j from by omega]at this
      simp only[Nat.add_zero]at hx0 hx1 hy0 hy1
      cases he:Cb k x y with
      |none=>simp[he]at hr
      |some b=>
       have hl:=Nk hk hx0 hy0 he d
       simp only[Op.eqFields,hnm,if_true,ne_eq,not_false_eq_true,Sem.run_bind,hc.1,LQ hk hx1,LQ hk hy1,Result.andThen_ok,hl]
       cases b with
       |true=>
        simp only[he]at hr
        have ih:=RH d hks hxs hys hr
        simp[ih]
       |false=>
        simp only[he,Option.some.injEq]at hr
        subst hr
        simp
   ·cases h
  ·cases h
theorem RI:∀{js ks:List IQ} {xs ys:List AV} {r:Bool},Df (js++ks) xs ys=some r→
 ∃b,Df js (xs.take js.length) (ys.take js.length)=some b∧(b=false→r=false)∧(b=true→Df ks (xs.drop js.length) (ys.drop js.length)=some r)
 |[],ks,xs,ys,r,h=>⟨true,rfl,fun h=>(by cases h),fun _=>h⟩
 |k::js,ks,[],ys,r,h=>by simp[Df]at h
 |k::js,ks,x::xs,[],r,h=>by simp[Df]at h
 |k::js,ks,x::xs,y::ys,r,h=>by
  simp only[List.cons_append,Df]at h
  simp only[List.length_cons,List.take_succ_cons,List.drop_succ_cons,Df]
  cases he:Cb k x y with
  |none=>simp[he]at h
  |some c=>
   simp only[he]at h
   cases c with
   |true=>
    obtain⟨b,h1,h2,h3⟩:=RI h
    exact⟨b,h1,h2,h3⟩
   |false=>
    simp only[Option.some.injEq]at h
    exact⟨false,rfl,fun _=>h.symm,fun h=>(by cases h)⟩
theorem AaJ {t:TypeId} {gs:Array Field} {n:Nat} (hu:P.underlying t=some (.struct gs)) (hn:Ba P t=some n) (vs:Array Value) (i:Nat):(part t vs i).run P w=.ok (.agg (vs.extract i (i+n))) w:=by
 have hag:(isAgg t).run P w=.ok true w:=by simp[isAgg,run_underlying hu]
 simp[part,hag,run_sizeOf hn]
theorem YI {t:TypeId} {js:List IQ} (h:Acg P t=some js):∃gs,P.underlying t=some (.struct gs)∧UG P gs.toList 0=some js∧P.stoodInHeld t=false∧Ba P t=some js.length:=by
 unfold Acg at h
 split at h
 ·rename_i gs hu
  split at h
  ·rename_i ks hf
   split at h
   ·rename_i hc
    cases h
    exact⟨gs,hu,hf,hc.1,hc.2⟩
   ·cases h
  ·cases h
 ·cases h
theorem KP (d:Nat):∀{fs:List Field} {i:Nat} {ks:List IQ},Nl P fs i=some ks→∀{xs ys:List AV} {vx vy:Array Value} {r:Bool},
 (∀ (j:Nat) (c:AV),xs[j]?=some c→Rep w Z φ ctr c (vx.getD (i+j) undef)∧i+j<vx.size)→
 (∀ (j:Nat) (c:AV),ys[j]?=some c→Rep w Z φ ctr c (vy.getD (i+j) undef)∧i+j<vy.size)→
 Df ks xs ys=some r→(Op.eqFields (d+2) vx vy fs).run P w=.ok r w
 |[],i,ks,h,xs,ys,vx,vy,r,hx,hy,hr=>by
  simp only[Nl,Option.some.injEq]at h
  subst h
  cases xs<;>cases ys<;>simp only[Df,Option.some.injEq,reduceCtorEq]at hr
  subst hr
  simp[Op.eqFields]
 |f::fs,i,ks,h,xs,ys,vx,vy,r,hx,hy,hr=>by
  simp only[Nl]at h
  split at h
  ·rename_i k hk
   split at h
   ·rename_i ks' hks
    split at h
    ·rename_i hc
     simp only[Option.some.injEq]at h
     subst h
     cases xs with
     |nil=>simp[Df]at hr
     |cons x xs=>
      cases ys with
      |nil=>simp[Df]at hr
      |cons y ys=>
       simp only[Df]at hr
       obtain⟨hx0,hx1⟩:=hx 0 x rfl
       obtain⟨hy0,hy1⟩:=hy 0 y rfl
       have hnm : f.name ≠ "_" := by
          have:=hc.2.1
          simpa using this
       have hxs:∀(j:Nat) (c:AV),xs[j]?=some c→Rep w Z φ ctr c (vx.getD (i+1+j) undef)∧i+1+j<vx.size:=by
          intro j c hj
          have:=hx (j+1) c (by simpa using hj)
          rwa [show i+(j+1)=i+1+j from by omega]at this
       have hys:∀(j:Nat) (c:AV),ys[j]?=some c→Rep w Z φ ctr c (vy.getD (i+1+j) undef)∧i+1+j<vy.size:=by
          intro j c hj
          have:=hy (j+1) c (by simpa using hj)
          rwa [show i+(j+1)=i+1+j from by omega]at this
       simp only[Nat.add_zero]at hx0 hx1 hy0 hy1
       cases he:Cb k x y with
       |none=>simp[he]at hr
       |some b=>
        have hl:=Nk hk hx0 hy0 he (d+1)
        simp only[Op.eqFields,hnm,if_true,ne_eq,not_false_eq_true,Sem.run_bind,hc.1,LQ hk hx1,LQ hk hy1,Result.andThen_ok,hl]
        cases b with
        |true=>
         simp only[he]at hr
         have ih:=KP d hks hxs hys hr
         simp[ih]
        |false=>
         simp only[he,Option.some.injEq]at hr
         subst hr
         simp
    ·cases h
   ·cases h
  ·split at h
   ·rename_i js hj
    split at h
    ·rename_i ks' hks
     split at h
     ·rename_i hc
      simp only[Option.some.injEq]at h
      subst h
      obtain⟨gs,hu,hf,hs,hn⟩:=YI hj
      obtain⟨b,e1,e2,e3⟩:=RI hr
      have hnm : f.name ≠ "_" := by
       have:=hc.2
       simpa using this
      have hfo:P.fieldsOf f.type=gs:=by simp[Program.fieldsOf,hu]
      have ext:∀{l:List AV} {v:Array Value},(∀ (j:Nat) (c:AV),l[j]?=some c→Rep w Z φ ctr c (v.getD (i+j) undef)∧i+j<v.size)→
          ∀(j:Nat) (c:AV),(l.take js.length)[j]?=some c→Rep w Z φ ctr c ((v.extract i (i+js.length)).getD (0+j) undef)∧0+j<(v.extract i (i+js.length)).size:=by
       intro l v hl j c hjc
       have hjm:j<js.length:=by
          have:=(List.getElem?_eq_some_iff.1 hjc).1
          rw[List.length_take]at this
          omega
       rw[List.getElem?_take_of_lt hjm]at hjc
       obtain⟨k1,k2⟩:=hl j c hjc
       have e:(v.extract i (i+js.length)).getD (0+j) undef=v.getD (i+j) undef:=by
          simp only[Array.getD_eq_getD_getElem?,Array.getElem?_extract,Nat.zero_add]
          rw[if_pos (by omega)]
       rw[e]
       exact⟨k1,by simp;omega⟩
      have hin:(Op.equalIn (d+2) f.type (.agg (vx.extract i (i+js.length))) (.agg (vy.extract i (i+js.length)))).run P w=.ok b w:=by
       rw[run_equalIn_struct w (d+1) f.type _ _ (by rw[hfo];exact hu) hs,hfo]
       exact RH d hf (ext hx) (ext hy) e1
      have drp:∀{l:List AV} {v:Array Value},(∀ (j:Nat) (c:AV),l[j]?=some c→Rep w Z φ ctr c (v.getD (i+j) undef)∧i+j<v.size)→
          ∀(j:Nat) (c:AV),(l.drop js.length)[j]?=some c→Rep w Z φ ctr c (v.getD (i+js.length+j) undef)∧i+js.length+j<v.size:=by
       intro l v hl j c hjc
       rw[List.getElem?_drop]at hjc
       have:=hl _ c hjc
       rwa [show i+(js.length+j)=i+js.length+j from by omega]at this
      simp only[Op.eqFields,hnm,if_true,ne_eq,not_false_eq_true,Sem.run_bind,hc.1,AaJ hu hn,Result.andThen_ok,hin]
      cases b with
      |true=>
       have ih:=KP d hks (drp hx) (drp hy) (e3 rfl)
       simp[ih]
      |false=>
       rw[e2 rfl]
       simp
     ·cases h
    ·cases h
   ·cases h
theorem Xm (a b:Value) (x:Sem Unit) (y:Array Value→Array Value→Sem Unit) (hn:a=.nilIface→b=.nilIface→False) (hag:¬∃xs ys,a=.agg xs∧b=.agg ys):
 (match (generalizing:=false) a,b with| .nilIface,.nilIface=>x| .agg xs,.agg ys=>y xs ys|_,_=>pure ():Sem Unit).run P w=.ok () w:=by
 split
 ·exact(hn rfl rfl).elim
 ·exact(hag ⟨_,_,rfl,rfl⟩).elim
 ·rfl
theorem Gx (op:BinOp) (t:TypeId) (ox oy:Operand) (a b:Value) (h:∀xs ys,a=.agg xs→b=.agg ys→P.eqGuardType P.depth t=false) (hn:a=.nilIface→b=.nilIface→False):
 (eqGuard op t ox oy a b).run P w=.ok () w:=by
 by_cases hag:∃xs ys,a=.agg xs∧b=.agg ys
 ·obtain⟨xs,ys,rfl,rfl⟩:=hag
  exact run_eqGuard_agg w op t ox oy xs ys (h _ _ rfl rfl)
 ·cases op<;>first|rfl|exact Xm a b _ _ hn hag
theorem QT {cs:List AV} {v:Value} (h:Rep w Z φ ctr (.agg cs) v):∃vs,v=.agg vs∧cs.length=vs.size∧(∀ (i:Nat) (c:AV),cs[i]?=some c→c.one=true)∧∀(i:Nat) (c:AV),cs[i]?=some c→Rep w Z φ ctr c (vs.getD i undef):=by
 cases h with
 |agg _ vs hl ho hr=>exact⟨vs,rfl,hl,ho,hr⟩
theorem Ach {t:TypeId}:(ZB P t=.bool→P.underlying t=some .bool)∧(ZB P t=.int→∃k,P.underlying t=some (.int k))∧(ZB P t=.str→P.underlying t=some .string)∧
 (ZB P t=.slice→∃e,P.underlying t=some (.slice e))∧(ZB P t=.ptr→∃e,P.underlying t=some (.pointer e))∧(ZB P t=.func→∃a b c,P.underlying t=some (.func a b c))∧
 (ZB P t=.map→∃a b,P.underlying t=some (.map a b))∧
 (∀ ks,ZB P t=.flat ks→∃fs,P.underlying t=some (.struct fs)∧Nl P fs.toList 0=some ks∧P.eqGuardType P.depth t=false∧P.stoodInHeld t=false):=by
 unfold ZB
 split
 all_goals (rename_i hu;refine⟨?_,?_,?_,?_,?_,?_,?_,?_⟩)
 all_goals try (intro h;cases h;done)
 all_goals try (intro ks h;cases h;done)
 all_goals try (intro _;exact hu)
 all_goals try (intro _;exact⟨_,hu⟩)
 all_goals try (intro _;exact⟨_,_,hu⟩)
 all_goals try (intro _;exact⟨_,_,_,hu⟩)
 all_goals try (intro h;split at h<;>(try split at h)<;>cases h;done)
 ·intro ks h
  split at h
  ·rename_i ks' hf
   split at h
   ·rename_i hc
    cases h
    exact⟨_,hu,hf,hc.1,hc.2.1⟩
   ·cases h
  ·cases h
theorem VI (d:Nat) {t e:TypeId} (hu:P.underlying t=some (.slice e)) (a b:Option Addr) (n c n' c':Nat) (h:a=none∨b=none):
 (Op.equalIn (d+1) t (.slice a n c) (.slice b n' c')).run P w=.ok (a.isNone&&b.isNone) w:=by
 rcases h with rfl|rfl
 ·simp[Op.equalIn,run_underlying hu]
 ·cases a<;>simp[Op.equalIn,run_underlying hu]
theorem YJ (d:Nat) {t e:TypeId} (hu:P.underlying t=some (.pointer e)) (a:Option Addr):
 (Op.equalIn (d+1) t (.pointer a) (.pointer none)).run P w=.ok a.isNone w:=by
 cases a<;>simp[Op.equalIn,run_underlying hu]
theorem Qb (d:Nat) {t:TypeId} {x y:Array TypeId} {z:Bool} (hu:P.underlying t=some (.func x y z)):
 (Op.equalIn (d+1) t .nilFunc .nilFunc).run P w=.ok true w∧∀f a b,(Op.equalIn (d+1) t (.func f a b) .nilFunc).run P w=.ok false w:=by
 simp[Op.equalIn,run_underlying hu]
theorem run_eq_map (d:Nat) {t x y:TypeId} (hu:P.underlying t=some (.map x y)) (a:Option Nat):
 (Op.equalIn (d+1) t (.map a) (.map none)).run P w=.ok a.isNone w:=by
 cases a<;>simp[Op.equalIn,run_underlying hu]
set_option maxHeartbeats 1000000 in
theorem Aci {t:TypeId} {x y:AV} {vx vy:Value} (hx:Rep w Z φ ctr x vx) (hy:Rep w Z φ ctr y vy) {r:Bool} (hr:Vg (ZB P t) x y=some r)
 (hni:∀k a k' b,x=.int k a→y=.int k' b→False) (hns:∀a b,x=.str a→y=.str b→False):
 (Op.equal t vx vy).run P w=.ok r w∧(∀ xs ys,vx=.agg xs→vy=.agg ys→P.eqGuardType P.depth t=false)∧(vx=.nilIface→vy=.nilIface→False)∧
 binOp .eql t vx vy=(do pure (.bool (← Op.equal t vx vy)):Sem Value)∧binOp .neq t vx vy=(do pure (.bool (!(← Op.equal t vx vy))):Sem Value):=by
 obtain⟨k1,k2,k3,k4,k5,k6,k7,k8⟩:=Ach (P:=P) (t:=t)
 unfold Op.equal
 rw[show Op.maxDepth=9999+1 from rfl]
 unfold Vg at hr
 split at hr
 ·rename_i ks hk
  obtain⟨fs,hu,hf,hg,hs⟩:=k8 ks hk
  split at hr
  ·rename_i xs ys
   obtain⟨vs,rfl,hl,_,hrs⟩:=QT hx
   obtain⟨us,rfl,hl',_,Akq⟩:=QT hy
   refine⟨?_,fun _ _ _ _=>hg,fun h=>(by cases h),rfl,rfl⟩
   have hfo:P.fieldsOf t=fs:=by simp[Program.fieldsOf,hu]
   rw[run_equalIn_struct w 9999 t vs us (by rw[hfo];exact hu) hs,hfo]
   refine KP (w:=w) (Z:=Z) (φ:=φ) (ctr:=ctr) 9997 hf (fun j c hj=>?_) (fun j c hj=>?_) hr
   ·have:=(List.getElem?_eq_some_iff.1 hj).1
    rw[Nat.zero_add]
    exact⟨hrs j c hj,by omega⟩
   ·have:=(List.getElem?_eq_some_iff.1 hj).1
    rw[Nat.zero_add]
    exact⟨Akq j c hj,by omega⟩
  ·cases hr
 ·rename_i hk
  obtain⟨e,hu⟩:=k4 hk
  split at hr<;>(try cases hr)
  all_goals (cases hx<;>cases hy<;>refine⟨?_,fun _ _ h=>(by cases h),fun h=>(by cases h),rfl,rfl⟩<;>exact VI 9999 hu _ _ _ _ _ _ (by simp))
 ·rename_i hk
  obtain⟨e,hu⟩:=k5 hk
  split at hr<;>(try cases hr)
  all_goals (cases hx<;>cases hy<;>refine⟨?_,fun _ _ h=>(by cases h),fun h=>(by cases h),rfl,rfl⟩<;>exact YJ 9999 hu _)
 ·rename_i hk
  obtain⟨_,_,_,hu⟩:=k6 hk
  split at hr<;>(try cases hr)
  all_goals (cases hx<;>cases hy<;>refine⟨?_,fun _ _ h=>(by cases h),fun h=>(by cases h),rfl,rfl⟩<;>first|exact(Qb 9999 hu).1|exact(Qb 9999 hu).2 _ _ _)
 ·rename_i hk
  obtain⟨_,_,hu⟩:=k7 hk
  split at hr<;>(try cases hr)
  all_goals (cases hx<;>cases hy<;>refine⟨?_,fun _ _ h=>(by cases h),fun h=>(by cases h),rfl,rfl⟩<;>exact run_eq_map 9999 hu _)
 ·generalize hq:ZB P t=q at*
  cases x<;>cases y<;>cases q<;>simp only[Cb,reduceCtorEq]at hr
  ·have hu:=k1 rfl
   have hl:=Nk (P:=P) (t:=t) (k:=.bool) (by simp[EJ,hu]) hx hy (by simpa[Cb]using hr) 9999
   cases hx;cases hy
   exact⟨hl,fun _ _ h=>(by cases h),fun h=>(by cases h),rfl,rfl⟩
  ·exact(hni _ _ _ _ rfl rfl).elim
  ·exact(hns _ _ rfl rfl).elim
theorem Aei {op:BinOp} {t:TypeId} {ox oy:Operand} {x y v:AV} {vx vy:Value} (hx:Rep w Z φ ctr x vx) (hy:Rep w Z φ ctr y vy) (hev:bin op (ZB P t) x y=some v):
 ∃z,(do eqGuard op t ox oy vx vy;binOp op t vx vy:Sem Value).run P w=.ok z w∧Rep w Z φ ctr v z:=by
 unfold bin at hev
 split at hev
 ·rename_i k a k' b
  cases hx;cases hy
  split at hev
  ·rename_i hk;subst hk
   have hg:(eqGuard op t ox oy (.int k a) (.int k b)).run P w=.ok () w:=Gx op t ox oy _ _ (fun _ _ h=>by cases h) (fun h=>by cases h)
   simp only[Sem.run_bind,hg,Result.andThen_ok]
   cases op<;>simp only[Jc,Option.some.injEq,reduceCtorEq]at hev
   all_goals try (subst hev;refine⟨_,?_,.int _ _⟩;simp[binOp,Op.intArith];done)
   all_goals try (subst hev;refine⟨_,?_,.bool _⟩;simp[binOp,Op.intCmp];done)
   all_goals try (subst hev;refine⟨_,?_,.int _ _⟩;simp[binOp,Op.intBits];done)
   all_goals (split at hev;· cases hev)
   all_goals (rename_i h0;cases hev;refine⟨_,?_,.int _ _⟩;first|(simp [binOp,Op.intDiv,h0];done)|(simp [binOp,Op.shift,h0];done))
  ·have hg:(eqGuard op t ox oy (.int k a) (.int k' b)).run P w=.ok () w:=Gx op t ox oy _ _ (fun _ _ h=>by cases h) (fun h=>by cases h)
   simp only[Sem.run_bind,hg,Result.andThen_ok]
   cases op<;>simp only[Jc,reduceCtorEq]at hev
   all_goals (split at hev;· cases hev)
   all_goals (rename_i h0;cases hev;refine⟨_,?_,.int _ _⟩;simp[binOp,Op.shift,h0];done)
 ·rename_i l1 l2
  cases hx with
  |str s1 _ h1=>cases hy with
   |str s2 _ h2=>
    have hg:(eqGuard op t ox oy (.string s1) (.string s2)).run P w=.ok () w:=Gx op t ox oy _ _ (fun _ _ h=>by cases h) (fun h=>by cases h)
    simp only[Sem.run_bind,hg,Result.andThen_ok]
    cases op<;>simp only[Yn,Option.some.injEq,reduceCtorEq]at hev
    all_goals try (subst hev;refine⟨_,?_,.bool _⟩;simp[binOp,Op.stringOp,ByteArray.toList_eq,h1,h2];done)
    split at hev
    ·rename_i hlt
     cases hev
     have e1:s1.size=l1.length:=by rw[← h1];simp
     have e2:s2.size=l2.length:=by rw[← h2];simp
     refine⟨.string (s1++s2),?_,.str _ _ ?_⟩
     ·have:(s1.size:Int)+(s2.size:Int)≤9223372036854775807:=by omega
      simp[binOp,Op.stringOp,this]
     ·rw[← h1,←h2];simp
    ·cases hev
 ·rename_i h1 h2
  split at hev
  all_goals first|cases hev;done|skip
  all_goals
   cases he:Vg (ZB P t) x y with
   |none=>simp[he]at hev
   |some r=>
    simp only[he,Option.map_some,Option.some.injEq]at hev
    subst hev
    obtain⟨hr,hg1,hg2,hb1,hb2⟩:=Aci hx hy he h1 h2
    refine⟨_,?_,.bool _⟩
    simp only[Sem.run_bind,Gx _ t ox oy vx vy hg1 hg2,Result.andThen_ok,hb1,hb2,hr,Sem.run_pure]
end AI
end Go.Proofs.YtiimoiecghmebaaDoor
namespace Go.Proofs.YtiimoiecghmebaaDoor
namespace AI
open Go.RowKit
variable {P:Program} {B:Nat} {w w' w0:World} {Z Z':Bh} {φ φ':D8} {ctr BX:Nat} {s s':Ag}
theorem AaK {t:TypeId} {sz:Option Nat} (ht:szT P t=some sz):(isAgg t).run P w=.ok sz.isSome w∧∀n,sz=some n→Ba P t=some n:=by
 unfold szT at ht
 split at ht
 ·rename_i fs n hu hc
  simp only[Option.some.injEq]at ht
  subst ht
  exact⟨by simp[isAgg,run_underlying hu],fun m hm=>by simp only[Option.some.injEq]at hm;subst hm;exact hc⟩
 ·rename_i k e n hu hc
  simp only[Option.some.injEq]at ht
  subst ht
  exact⟨by simp[isAgg,run_underlying hu],fun m hm=>by simp only[Option.some.injEq]at hm;subst hm;exact hc⟩
 ·rename_i d hns hna hu hc
  simp only[Option.some.injEq]at ht
  subst ht
  exact⟨by simp only[isAgg,Sem.run_bind,run_underlying hu,Result.andThen_ok];rfl,fun m hm=>by cases hm⟩
 ·cases ht
theorem Oj {t:TypeId} {sz:Option Nat} (ht:szT P t=some sz) {cs:List AV} {vs:Array Value} {off:Nat} {v:AV} (hl:cs.length=vs.size) (ho:∀(i:Nat) (c:AV),cs[i]?=some c→c.one=true)
 (hr:∀(i:Nat) (c:AV),cs[i]?=some c→Rep w Z φ ctr c (vs.getD i undef)) (hv:AI.loadCells (cs.drop off) sz=some v):
 ∃x,(part t vs off).run P w=.ok x w∧Rep w Z φ ctr v x:=by
 obtain⟨hag,hsz⟩:=AaK (w:=w) ht
 cases sz with
 |none=>
  simp only[AI.loadCells,Aj,List.getElem?_drop,Nat.add_zero]at hv
  have hlt:off<vs.size:=by
   have:=(List.getElem?_eq_some_iff.1 hv).1
   omega
  refine⟨vs[off],?_,?_⟩
  ·simp[part,hag,Array.getElem?_eq_getElem hlt]
  ·have:=hr off v hv
   simpa[Array.getD_eq_getD_getElem?,Array.getElem?_eq_getElem hlt]using this
 |some n=>
  simp only[AI.loadCells]at hv
  split at hv
  ·rename_i hn
   simp only[Option.some.injEq]at hv
   subst hv
   simp only[List.length_drop]at hn
   have hc:=hsz n rfl
   obtain⟨_,_,_,h0⟩:=DN hc
   refine⟨.agg (vs.extract off (off+n)),?_,?_⟩
   ·simp[part,hag,run_sizeOf hc]
   ·refine .agg _ _ (by simp;omega) (fun i c hi=>?_) (fun i c hi=>?_)
    all_goals
     have hi':i<n:=by
      have:=(List.getElem?_eq_some_iff.1 hi).1
      simp at this;omega
     rw[List.getElem?_take_of_lt hi',List.getElem?_drop]at hi
    ·exact ho _ c hi
    ·have:=hr _ c hi
     have e:(vs.extract off (off+n)).getD i undef=vs.getD (off+i) undef:=by
      simp only[Array.getD_eq_getD_getElem?,Array.getElem?_extract]
      rw[if_pos (by omega)]
     rw[e];exact this
  ·cases hv
theorem Ol {w:World} (t e:TypeId) (b:Addr) (len cap es:Nat) (k:IntKind) (i:Int) (hu:P.underlying t=some (.slice e)) (hes:Ba P e=some es) (h0:0≤i) (h1:i<len):
 (Instr.indexAt t (.slice (some b) len cap) (.int k i)).run P w=.ok (.pointer (some (b.add (i.toNat*es)))) w:=by
 simp[Instr.indexAt,asIntOf,run_underlying hu,h0,h1,run_sizeOf hes]
theorem YK {xs:List AV} {b off es:Nat} {f:Nat→Nat→Value}
 (hc:∀(i:Nat) (x:AV) (j:Nat) (c:AV),xs[i]?=some x→x.cells[j]?=some c→Z b (off+i*es+j)∧w.cell? ⟨b,off+i*es+j,none⟩=some (f i j)∧c.closed=true∧c.one=true)
 (hr:∀(i:Nat) (x:AV) (j:Nat) (c:AV),xs[i]?=some x→x.cells[j]?=some c→Rep w Z φ ctr c (f i j)) {i:Nat} {x:AV} (hx:xs[i]?=some x):
 Rep w Z φ ctr (.CS x.cells) (.pointer (some ⟨b,off+i*es,none⟩)):=
 .CS _ b (off+i*es) (f i) (fun j c hj=>hc i x j c hx hj) (fun j c hj=>hr i x j c hx hj)
theorem AaL (hI:Inv w0 B s Z φ w) {t e:TypeId} {es:Nat} (hu:P.underlying t=some (.slice e)) (hes:Ba P e=some es) {x i v:AV} {vx vi:Value} (hx:Rep w Z φ s.ctr x vx) (hi:Rep w Z φ s.ctr i vi)
 {C:Aq} {env:Env} {ax ai:AO} (h1:ax.val env=x) (h2:ai.val env=i) (hev:Ae C (.Rk es ax ai) env s=some (.ok v,s')):
 ∃z,(Instr.indexAt t vx vi).run P w=.ok z w∧Rep w Z φ s.ctr v z∧s'=s:=by
 simp only[Ae,h1,h2]at hev
 split at hev
 ·rename_i nn xs k i
  split at hev
  ·rename_i h0
   split at hev
   ·rename_i y hy
    split at hev
    ·rename_i hsz
     simp only[Option.some.injEq,Prod.mk.injEq,AL.ok.injEq]at hev
     obtain⟨rfl,rfl⟩:=hev
     rw[Aj]at hy
     have hlt:=(List.getElem?_eq_some_iff.1 hy).1
     cases hi
     cases hx with
     |EI=>simp at hlt
     |sl0=>simp at hlt
     |sl _ n b off cap es' f hn hcap hes' hsz' hc hr=>
      have he:es'=es:=by rw[← hsz' _ _ hy,hsz]
      subst he
      refine⟨_,Ol t e _ _ _ _ _ _ hu hes h0 (by omega),?_,rfl⟩
      rw[Addr.add_lit]
      exact YK hc hr hy
    ·cases hev
   ·cases hev
  ·cases hev
 ·rename_i o g off len k i
  split at hev
  ·rename_i g' es' nn cl elems ho
   split at hev
   ·rename_i hc
    obtain⟨rfl,rfl,h0,h1⟩:=hc
    simp only[Option.some.injEq,Prod.mk.injEq,AL.ok.injEq]at hev
    obtain⟨rfl,rfl⟩:=hev
    rw[Aj]at ho
    cases hi
    cases hx with
    |own _ _ _ _ b es'' size cap a hg hφ hcap ha hs=>
     obtain⟨rfl,hsize,_⟩:=ha (.inl (by omega))
     have hob:=hI.objs o _ ho
     obtain⟨_,_,h3⟩:=hob
     rw[hφ]at h3
     obtain⟨_,he,_⟩:=h3
     subst he
     refine⟨_,Ol t e _ _ _ _ _ _ hu hes h0 h1,?_,rfl⟩
     rw[Addr.add_lit,←Nat.add_mul]
     exact .ref _ _ _ 0 b es'' size hg hφ
    |BP=>omega
    |Dz=>omega
   ·cases hev
  ·cases hev
 ·cases hev
theorem AaM {t e:TypeId} {es n:Nat} (hu:P.underlying t=some (.array n e)) (hes:Ba P e=some es) {x i v:AV} {vx vi:Value} (hx:Rep w Z φ s.ctr x vx) (hi:Rep w Z φ s.ctr i vi)
 {C:Aq} {env:Env} {ax ai:AO} (h1:ax.val env=x) (h2:ai.val env=i) (hev:Ae C (.WT es n ax ai) env s=some (.ok v,s')):
 ∃z,(Instr.indexAt t vx vi).run P w=.ok z w∧Rep w Z φ s.ctr v z∧s'=s:=by
 have run:∀(a:Addr) (k:IntKind) (i:Int),0≤i→i<n→(Instr.indexAt t (.pointer (some a)) (.int k i)).run P w=.ok (.pointer (some (a.add (i.toNat*es)))) w:=by
  intro a k i h0 h1
  simp[Instr.indexAt,asIntOf,run_underlying hu,Instr.sureAddr,h0,h1,run_sizeOf hes]
 simp only[Ae,h1,h2]at hev
 split at hev
 ·rename_i cs k i
  split at hev
  ·rename_i hc
   simp only[Option.some.injEq,Prod.mk.injEq,AL.ok.injEq]at hev
   obtain⟨rfl,rfl⟩:=hev
   obtain⟨b,off,rfl,_⟩:=VH hx
   cases hi
   refine⟨_,run _ _ _ hc.1 hc.2,?_,rfl⟩
   rw[Addr.add_lit]
   exact hx.UF _
  ·cases hev
 ·rename_i o g j off k i
  split at hev
  ·rename_i hc
   simp only[Option.some.injEq,Prod.mk.injEq,AL.ok.injEq]at hev
   obtain⟨rfl,rfl⟩:=hev
   cases hi
   cases hx with
   |ref _ _ _ _ b es' size hg hφ=>
    refine⟨_,run _ _ _ hc.1 hc.2,?_,rfl⟩
    rw[Addr.add_lit,Nat.add_assoc]
    exact .ref _ _ _ _ b es' size hg hφ
  ·cases hev
 ·cases hev
theorem Acj {t e:TypeId} {es n:Nat} {sz:Option Nat} (hu:P.underlying t=some (.array n e)) (hes:Ba P e=some es) (ht:szT P e=some sz) {x i v:AV} {vx vi:Value} (hx:Rep w Z φ s.ctr x vx) (hi:Rep w Z φ s.ctr i vi)
 {C:Aq} {env:Env} {ax ai:AO} (h1:ax.val env=x) (h2:ai.val env=i) (hev:Ae C (.AbK es n sz ax ai) env s=some (.ok v,s')):
 ∃z,(Instr.index t vx vi).run P w=.ok z w∧Rep w Z φ s.ctr v z∧s'=s:=by
 simp only[Ae,h1,h2]at hev
 split at hev
 ·rename_i cs k i
  split at hev
  ·rename_i hc
   unfold ok at hev
   cases hl:AI.loadCells (cs.drop (i.toNat*es)) sz with
   |none=>simp[hl]at hev
   |some v'=>
    simp only[hl,Option.map_some,Option.some.injEq,Prod.mk.injEq,AL.ok.injEq]at hev
    obtain⟨rfl,rfl⟩:=hev
    obtain⟨vs,rfl,hlen,ho,hr⟩:=QT hx
    cases hi
    obtain⟨z,hz1,hz2⟩:=Oj (P:=P) ht hlen ho hr hl
    exact⟨z,by simp[Instr.index,asIntOf,run_underlying hu,hc.1,hc.2,run_sizeOf hes,hz1],hz2,rfl⟩
  ·cases hev
 ·cases hev
theorem Ack {t:TypeId} (hu:P.underlying t=some .string) {x i v:AV} {vx vi:Value} (hx:Rep w Z φ s.ctr x vx) (hi:Rep w Z φ s.ctr i vi)
 {C:Aq} {env:Env} {ax ai:AO} (h1:ax.val env=x) (h2:ai.val env=i) (hev:Ae C (.Ym ax ai) env s=some (.ok v,s')):
 ∃z,(Instr.index t vx vi).run P w=.ok z w∧Rep w Z φ s.ctr v z∧s'=s:=by
 simp only[Ae,h1,h2]at hev
 split at hev
 ·rename_i bs k i
  split at hev
  ·rename_i h0
   split at hev
   ·rename_i b hb
    simp only[Option.some.injEq,Prod.mk.injEq,AL.ok.injEq]at hev
    obtain⟨rfl,rfl⟩:=hev
    rw[Aj]at hb
    cases hi
    cases hx with
    |str s _ h=>
     subst h
     have hlt:i.toNat<s.size:=by
      have:=(List.getElem?_eq_some_iff.1 hb).1
      simpa using this
     have hg:s[i.toNat]?=some b:=by
      rw[ByteArray.getElem?_lt' s _ hlt]
      have:=(List.getElem?_eq_some_iff.1 hb).2
      simp only[Option.some.injEq]
      rw[← this];simp;rfl
     refine⟨.int .u8 b.toNat,?_,.int _ _,rfl⟩
     simp[Instr.index,asIntOf,run_underlying hu,h0,hg]
   ·cases hev
  ·cases hev
 ·cases hev
end AI
end Go.Proofs.YtiimoiecghmebaaDoor
