/- slices.Insert of one element and slices.Delete, at elements of any size: from the walks to the table's entries. -/
import Derived.Test.YtchcadfjbkkgmaaGreatDoorEInA
import Derived.Shelf.Spec.SlicesInsertGrow
import Derived.Lib.AppendZerosOnto
import Derived.WalkKit
set_option linter.unusedVariables false
set_option maxRecDepth 4000
set_option linter.unusedSimpArgs false
namespace Go.Proofs.YtchcadfjbkkgmaaGreatDoor
namespace AI
open Go.RowKit Go.Lib
theorem cell_of {w:World} {b:Nat} {c:Array Value} {t:TypeId} (h:w.heap[b]?=some (.cells c t (0,0))) (j:Nat):w.cell? ⟨b,j,none⟩=c[j]?:=by
 simp[World.cell?,h]
theorem AbL {w:World} {a:Addr} {v:Value} (h:w.cell? a=some v):a.block<w.heap.size:=by
 rcases Nat.lt_or_ge a.block w.heap.size with hlt|hge
 ·exact hlt
 ·have:w.heap[a.block]?=none:=Array.getElem?_eq_none hge
  simp[World.cell?,this]at h
theorem Om {w:World} {a:Addr} {v:Value} (h:w.cell? a=some v):∃t n,w.shape? a.block=some (t,n)∧n≠0:=by
 unfold World.cell? at h
 split at h
 ·rename_i c t fr hb
  split at h
  ·cases h
  ·refine⟨t,c.size,by simp[World.shape?,hb],fun h0=>?_⟩
   have:c[a.off]?=none:=Array.getElem?_eq_none (by omega)
   rw[this]at h
   cases h
 ·cases h
theorem Ve {w w':World} {a:Addr} (hb:w'.heap[a.block]?=w.heap[a.block]?):w'.cell? a=w.cell? a:=by
 simp only[World.cell?,hb]
theorem add_block (a:Addr) (j:Nat):(a.add j).block=a.block:=by
 unfold Addr.add
 split<;>rfl
theorem AbM (a:Addr):a.add 0=a:=by
 obtain⟨b,o,s⟩:=a
 cases s<;>simp[Addr.add]
theorem Ig {a b c es:Nat} (h:a+b=c):a*es+b*es=c*es:=by rw[← Nat.add_mul,h]
theorem AZ.split {w:World} {Z:Bv} {φ:DN} {ctr:Nat} {xs ys:List AV} {vs:List Value} (h:AZ w Z φ ctr (xs++ys) vs.toArray):AZ w Z φ ctr xs (vs.take xs.length).toArray∧AZ w Z φ ctr ys (vs.drop xs.length).toArray:=by
 have hl:xs.length+ys.length=vs.length:=by simpa using h.1
 refine⟨⟨by simp;omega,fun i c hi=>?_⟩,⟨by simp;omega,fun i c hi=>?_⟩⟩
 ·have hlt:=(List.getElem?_eq_some_iff.1 hi).1
  obtain⟨v,a,b⟩:=h.2 i c (by rw[List.getElem?_append_left hlt];exact hi)
  refine⟨v,?_,b⟩
  have:vs[i]?=some v:=by simpa using a
  simp[List.getElem?_take_of_lt hlt,this]
 ·obtain⟨v,a,b⟩:=h.2 (xs.length+i) c (by rw[List.getElem?_append_right (by omega)];simpa using hi)
  refine⟨v,?_,b⟩
  have:vs[xs.length+i]?=some v:=by simpa using a
  simp[List.getElem?_drop,this]
theorem OY {w:World} {Z:Bv} {φ:DN} {ctr es:Nat} {c:Array Value} {cl:Bool} {elems:List AV} (hH:Holds w Z φ ctr c es cl elems) (hc:cl=true):∀y∈elems,y.closed=true:=by
 intro y hy
 obtain⟨i,hi⟩:=List.mem_iff_getElem?.1 hy
 have hone:∀(j:Nat) (c:AV),y.cells[j]?=some c→c.closed=true:=by
  intro j c hj
  obtain⟨_,_,_,_,k⟩:=(hH i y hi).2 j c hj
  exact k hc
 cases y with
 |agg cs=>simp only[AV.closed];exact BZ hone
 |_=>exact hone 0 _ rfl
theorem ER {P:Program} (w:World) (tS tR e:TypeId) (ht:P.underlying tS=some (.slice e)) (size:Nat) (hz:∀w,(Go.sizeOf e).run P w=.ok size w)
 (a b:Addr) (la ca lb cb:Nat) (hne:a.block≠b.block) (tA tB:TypeId) (kA kB:Nat)
 (hsa:w.shape? a.block=some (tA,kA)) (hsb:w.shape? b.block=some (tB,kB)) (hkA:kA≠0)
 (hfb:w.frozen? b=false) (hfe:w.frozen? {block:=b.block,off:=kB}=false):
 (Extern.SlicesOverlaps.overlaps #[tS,tS] #[tR] #[.slice (some a) la ca,.slice (some b) lb cb]).run P w=.ok (.bool false) w:=by
 have hnb:(a.block != b.block)=true:=by simpa using hne
 have hnb':(a.block==b.block)=false:=by simpa using hne
 change Sem.run P (α:=Value) (do
  let some t := (#[tS, tS] : Array TypeId)[0]? | stuck "slices.overlaps: no parameter types"
  let .slice elem ← underlying t | stuck "slices.overlaps: slice type expected"
  let size ←sizeOf elem
  match(some a:Option Addr),(some b:Option Addr)with
  |some a,some b=>
   if la=0∨lb=0∨size=0 then pure (Value.bool false)
   else if a.block != b.block&&(← frozen a)&&(← frozen b)then unsupported .addressObserved
   else do
        if a.block != b.block then do
         noView a;noView b
         if ← mayBeOne a b then return Value.bool ((← choose (.extern "sameAddr.stringBytes" 2)) == 1)
        pure (Value.bool (a.block==b.block&&a.off<b.off+lb*size&&b.off<a.off+la*size))
  |_,_=>pure (Value.bool false)) w=_
 by_cases h0:la=0∨lb=0∨size=0
 ·simp[run_underlying ht,hz,h0]
 ·cases kA with
  |zero=>exact absurd rfl hkA
  |succ kA=>
   cases h1:w.frozen? a<;>cases h2:w.frozen? {block:=a.block,off:=kA+1}<;>simp[run_underlying ht,hz,h0,hnb,hnb',frozen,noView,viewAt,mayBeOne,stringish,shape,Sem.run,hsa,hsb,hfb,hfe,h1,h2]
structure Ol (P:Program) (st t es bytes:Nat) (zv:Value) (za:AV):Prop where
 pos:0<es
 b0:0<bytes
 hu:P.underlying st=some (.slice t)
 inf:(P.info? t).map (fun i=>(i.zero,i.size,i.bytes))=some (some zv,es,bytes)
 zt:Ep P t=some (es,za)
 zs:zv.cells.size=es
 z1:∀v∈zv.cells.toList,v.oneCell'=true
structure YN (P:Program) (f st it es ov:Nat):Prop where
 fn:AcI P f
 iu:P.underlying it=some (.int .i64)
 fin:∀(base:Option Addr) (n c vc:Nat) (va:Addr) (w w1:World) (x:Value),(base=none→n=0)→n≤c→
  (∀ ty,(Builtin.append_ #[st,st] ty #[.slice base n c,.slice (some va) 1 vc]).run P w=.ok x w1)→
  Calls P f #[.slice base n c,.int .i64 n,.slice (some va) 1 vc] w fun e w'=>e=.returned x∧w'=w1
 grow:∀(b n c i vc G:Nat) (va:Addr) (w w1 w2 w3:World),i<n→n≤c→c<n+1→n+1≤G→G≤9223372036854775807→n≤70368744177664→
  (∀ ty,(Builtin.append_ #[st,it] ty #[.slice (some ⟨b,0,none⟩) i c,.int .i64 ((n:Int)+1-(i:Int))]).run P w=.ok (.slice (some ⟨w.heap.size,0,none⟩) (n+1) G) w1)→
  (∀ ty dc,(Builtin.copy_ #[st,st] ty #[.slice (some ⟨w.heap.size,i*es,none⟩) (n+1-i) dc,.slice (some va) 1 vc]).run P w1=.ok (goInt 1) w2)→
  (∀ ty dc sc,(Builtin.copy_ #[st,st] ty #[.slice (some ⟨w.heap.size,(i+1)*es,none⟩) (n+1-(i+1)) dc,.slice (some ⟨b,i*es,none⟩) (n-i) sc]).run P w2.drew=.ok (goInt ((n-i:Nat):Int)) w3)→
  Calls P f #[.slice (some ⟨b,0,none⟩) n c,.int .i64 i,.slice (some va) 1 vc] w fun e w'=>e=.returned (.slice (some ⟨w.heap.size,0,none⟩) (n+1) G)∧w'=w3
 apart:∀(b o vc lb cb:Nat) (va:Addr) (cur:Array Value) (v:Value) (t1:TypeId) (w:World),va.block≠b→w.heap[b]?=some (.cells cur t1 (0,0))→w.cell? va=some v→0<cur.size→
  (callFunc ov #[.slice (some va) 1 vc,.slice (some ⟨b,o,none⟩) lb cb]).run P w=.ok (.value (.bool false)) w
 shift:∀(b n c i vc:Nat) (va:Addr) (w w2 w3:World),i<n→n+1≤c→c≤9223372036854775807→
  (∀ lb cb,(callFunc ov #[.slice (some va) 1 vc,.slice (some ⟨b,(i+1)*es,none⟩) lb cb]).run P w=.ok (.value (.bool false)) w)→
  (∀ ty dc sc,(Builtin.copy_ #[st,st] ty #[.slice (some ⟨b,(i+1)*es,none⟩) (n+1-(i+1)) dc,.slice (some ⟨b,i*es,none⟩) (n+1-i) sc]).run P w.drew=.ok (goInt ((n-i:Nat):Int)) w2)→
  (∀ ty dc,(Builtin.copy_ #[st,st] ty #[.slice (some ⟨b,i*es,none⟩) (n+1-i) dc,.slice (some va) 1 vc]).run P w2=.ok (goInt 1) w3)→
  Calls P f #[.slice (some ⟨b,0,none⟩) n c,.int .i64 i,.slice (some va) 1 vc] w fun e w'=>e=.returned (.slice (some ⟨b,0,none⟩) (n+1) c)∧w'=w3
structure Aa5 (P:Program) (f st es:Nat):Prop where
 fn:AcI P f
 walk:∀(b n c i j:Nat) (A:Addr) (w w2 w3:World),i<j→j≤n→n≤c→c≤9223372036854775807→(if c=j then some (⟨b,0,none⟩:Addr)else some ⟨b,j*es,none⟩)=some A→
  (∀ ty,(Builtin.append_ #[st,st] ty #[.slice (some ⟨b,0,none⟩) i c,.slice (some A) (n-j) (c-j)]).run P w.drew=.ok (.slice (some ⟨b,0,none⟩) (i+(n-j)) c) w2)→
  (∀ ty,(Builtin.clear_ #[st] ty #[.slice (some ⟨b,(i+(n-j))*es,none⟩) (n-(i+(n-j))) (c-(i+(n-j)))]).run P w2=.ok (.tuple #[]) w3)→
  Calls P f #[.slice (some ⟨b,0,none⟩) n c,.int .i64 i,.int .i64 j] w fun e w'=>e=.returned (.slice (some ⟨b,0,none⟩) (i+(n-j)) c)∧w'=w3
variable {P:Program} {st t es bytes:Nat} {zv:Value} {za:AV} {f it ov:Nat}
theorem AfI (hT:Ol P st t es bytes zv za) (hF:YN P f st it es ov) (b n c i vc:Nat) (va:Addr) (cur:Array Value) (vs:List Value) (t1:TypeId) (w:World) (hi:i<n) (hnc:n≤c) (hroom:c<n+1) (hbig:(n+1)*bytes≤70368744177664)
 (hb:w.heap[b]?=some (.cells cur t1 (0,0))) (hv:∀(j:Nat) (v:Value),vs[j]?=some v→w.cell? (va.add j)=some v) (hcur:n*es≤cur.size) (hvl:vs.length=es)
 (h1c:∀v∈cur.toList.take (n*es),v.oneCell'=true) (h1v:∀v∈vs,v.oneCell'=true):
 Calls P f #[.slice (some ⟨b,0,none⟩) n c,.int .i64 i,.slice (some va) 1 vc] w fun e w'=>
  e=.returned (.slice (some ⟨w.heap.size,0,none⟩) (n+1) (grownCap w (n+1) c t))∧Below w.heap.size w w'∧
  ∃rest:List Value,rest.length=(grownCap w (n+1) c t-(n+1))*es∧w'.heap[w.heap.size]?=some (.cells ((cur.toList.take (n*es)).take (i*es)++vs++(cur.toList.take (n*es)).drop (i*es)++rest).toArray t (0,0)):=by
 obtain⟨i0,hi0,hz0,hzs,hzb⟩:=info_parts hT.inf
 have hu:=hT.hu
 have hp:=hT.pos
 have hb0:=hT.b0
 have AcA:n+1≤70368744177664:=Nat.le_trans (Nat.le_mul_of_pos_right _ hb0) hbig
 obtain⟨cs,hcs⟩:∃cs,cs=cur.toList.take (n*es):=⟨_,rfl⟩
 rw[← hcs]at h1c ⊢
 have hcl:cs.length=n*es:=by rw[hcs];simp;omega
 have m1:i*es+(n-i)*es=n*es:=Ig (by omega)
 have m2:i*es+1*es=(i+1)*es:=Ig rfl
 have m3:(i+1)*es+(n-i)*es=(n+1)*es:=Ig (by omega)
 have AlW:zv.cells.size=es:=hT.zs
 obtain⟨G,hG⟩:∃G,G=grownCap w (n+1) c t:=⟨_,rfl⟩
 have hGn:n+1≤G:=by rw[hG];exact grownCap_ge w _ _ _
 have hG63:G≤9223372036854775807:=by
  have:=grownCap_le_maxLen w (n+1) c t (by unfold maxLen;omega)
  rw[← hG]at this
  unfold maxLen at this
  omega
 have m4:(n+1)*es+(G-(n+1))*es=G*es:=Ig (by omega)
 have m5:i*es+(n+1-i)*es=(n+1)*es:=Ig (by omega)
 have AjR:(Builtin.firstCells i0.size i (.slice (some ⟨b,0,none⟩) i c)).run P w.drew=.ok (cs.take (i*es)).toArray w.drew:=by
  rw[hzs]
  refine run_firstCells_some w.drew es i ⟨b,0,none⟩ i c (cs.take (i*es)) (by rw[List.length_take];omega) (fun j v hj=>?_)
  rw[Addr.add_lit,Nat.zero_add]
  show w.cell? _=_
  rw[cell_of hb]
  rw[List.getElem?_take]at hj
  split at hj
  ·rw[hcs,List.getElem?_take]at hj
   split at hj
   ·simpa using hj
   ·cases hj
  ·cases hj
 obtain⟨ROW,hROW⟩:∃ROW:Array Value,ROW=(cs.take (i*es)).toArray++Builtin.zeroCells zv.cells (n+1-i)++Builtin.zeroCells zv.cells (G-(n+1)):=⟨_,rfl⟩
 have hrz:∀ty,(Builtin.append_ #[st,it] ty #[.slice (some ⟨b,0,none⟩) i c,.int .i64 ((n:Int)+1-(i:Int))]).run P w=
  .ok (.slice (some ⟨w.heap.size,0,none⟩) (n+1) G) (w.drew.alloc (.cells ROW t)):=fun ty=>by
  have h:=Lib.run_append_grow_zeros (P:=P) w st it ty t i0 _ .i64 .i64 hu hF.iu hi0 hz0 (some ⟨b,0,none⟩) i c (cs.take (i*es)) AjR (n+1-i) (by omega) (by omega) (by omega) (by omega) (by rw[hzb];exact Nat.le_trans (Nat.mul_le_mul_right _ (show n+1-i≤n+1 by omega)) (by omega)) (by rw[hzb,show i+(n+1-i)=n+1 by omega];exact growslice_fits hroom (by omega))
  rw[show i+(n+1-i)=n+1 by omega,←hG]at h
  rw[show (n:Int)+1-(i:Int)=((n+1-i:Nat):Int) by omega,hROW]
  exact h
 have hRs:ROW.size=G*es:=by
  rw[hROW]
  simp only[Array.size_append,List.size_toArray,size_zeroCells,AlW,List.length_take]
  omega
 have hbw:b<w.heap.size:=(Array.getElem?_eq_some_iff.1 hb).1
 obtain⟨v0,hv0⟩:∃v0,vs[0]?=some v0:=⟨_,List.getElem?_eq_getElem (by omega)⟩
 have hvw:va.block<w.heap.size:=AbL (hv 0 v0 hv0)
 obtain⟨w1,hw1⟩:∃w1,w1=w.drew.alloc (.cells ROW t):=⟨_,rfl⟩
 have hA1:w1.heap[w.heap.size]?=some (.cells ROW t (0,0)):=by rw[hw1];exact heap_alloc_new w.drew _
 have hA2:∀k,k<w.heap.size→w1.heap[k]?=w.heap[k]?:=fun k hk=>by
  rw[hw1]
  show(w.heap.push _)[k]?=_
  rw[Array.getElem?_push_lt (by omega)]
  exact(Array.getElem?_eq_getElem (by omega)).symm
 have hAs:w1.heap.size=w.heap.size+1:=by rw[hw1];show(w.heap.push _).size=_;simp
 have hAb:Below w.heap.size w w1:=by
  refine⟨?_,?_,?_,by omega,fun k hk=>hA2 k hk⟩<;>(rw [hw1];rfl)
 obtain⟨R2,hR2⟩:∃R2:Array Value,R2=(ROW.toList.take (i*es)++vs++ROW.toList.drop (i*es+vs.length)).toArray:=⟨_,rfl⟩
 have AfJ:R2.size=G*es:=by rw[hR2];simp;omega
 obtain⟨R3,Z4⟩:∃R3:Array Value,R3=(R2.toList.take ((i+1)*es)++cs.drop (i*es)++R2.toList.drop ((i+1)*es+(cs.drop (i*es)).length)).toArray:=⟨_,rfl⟩
 have hdl:(cs.drop (i*es)).length=(n-i)*es:=by rw[List.length_drop];omega
 have hcpA:∀ty dc,(Builtin.copy_ #[st,st] ty #[.slice (some ⟨w.heap.size,i*es,none⟩) (n+1-i) dc,.slice (some va) 1 vc]).run P w1=.ok (goInt 1) (w1.setRow w.heap.size R2):=fun ty dc=>by
  have hm:Nat.min 1 (n+1-i)=1:=by simp only[Nat.min_def];split<;>omega
  have:=GK (P:=P) (ty:=ty) (sT:=st) w1 w.heap.size (i*es) (n+1-i) dc va 1 vc ROW t vs hu hi0 hA1 (by rw[hm,hzs];omega) (fun j v hj=>(Ve (by rw[add_block];exact hA2 va.block hvw)).trans (hv j v hj)) (by omega) h1v
  rw[hm,←hR2]at this
  exact this
 have hB1:(w1.setRow w.heap.size R2).drew.heap[w.heap.size]?=some (.cells R2 t (0,0)):=setRow_heap _ _ _ _ _ _ hA1
 have hB2:∀k,k<w.heap.size→((w1.setRow w.heap.size R2).drew).heap[k]?=w.heap[k]?:=fun k hk=>(setRow_other _ _ _ _ (by omega)).trans (hA2 k hk)
 have hcpB:∀ty dc sc,(Builtin.copy_ #[st,st] ty #[.slice (some ⟨w.heap.size,(i+1)*es,none⟩) (n+1-(i+1)) dc,.slice (some ⟨b,i*es,none⟩) (n-i) sc]).run P (w1.setRow w.heap.size R2).drew=.ok (goInt ((n-i:Nat):Int)) ((w1.setRow w.heap.size R2).drew.setRow w.heap.size R3):=fun ty dc sc=>by
  have hm:Nat.min (n-i) (n+1-(i+1))=n-i:=by simp only[Nat.min_def];split<;>omega
  have:=GK (P:=P) (ty:=ty) (sT:=st) (w1.setRow w.heap.size R2).drew w.heap.size ((i+1)*es) (n+1-(i+1)) dc ⟨b,i*es,none⟩ (n-i) sc R2 t (cs.drop (i*es)) hu hi0 hB1 (by rw[hm,hzs,hdl]) (fun j v hj=>by
   rw[Addr.add_lit,cell_of ((hB2 b hbw).trans hb)]
   rw[List.getElem?_drop,hcs,List.getElem?_take]at hj
   split at hj
   ·simpa using hj
   ·cases hj) (by omega) (fun v hv=>h1c v (List.mem_of_mem_drop hv))
  rw[hm,←Z4]at this
  exact this
 have hsz:∀(W:World) (g:Nat) (r:Array Value),(W.setRow g r).heap.size=W.heap.size:=fun W g r=>by simp
 refine(hF.grow b n c i vc G va w w1 _ _ hi hnc hroom hGn hG63 (by omega) (fun ty=>by rw[hw1];exact hrz ty) hcpA hcpB).mono ?_
 rintro e w' ⟨rfl,rfl⟩
 have hBb:Below w.heap.size w ((w1.setRow w.heap.size R2).drew.setRow w.heap.size R3):=by
  refine⟨hAb.1,hAb.2,hAb.3,?_,fun k hk=>(setRow_other _ _ _ _ (by omega)).trans (hB2 k hk)⟩
  rw[hsz]
  show w.heap.size≤(w1.setRow w.heap.size R2).heap.size
  rw[hsz,hAs]
  omega
 refine⟨by rw[hG],hBb,R2.toList.drop ((i+1)*es+(cs.drop (i*es)).length),?_,?_⟩
 ·rw[List.length_drop,Array.length_toList,AfJ,hdl,←hG]
  omega
 ·rw[setRow_heap _ _ _ _ _ _ hB1]
  have a1:ROW.toList.take (i*es)=cs.take (i*es):=by
   rw[hROW]
   simp only[Array.toList_append,List.append_assoc]
   exact List.take_left' (by rw[List.length_take];omega)
  have a2:R2.toList.take ((i+1)*es)=cs.take (i*es)++vs:=by
   rw[hR2,a1]
   exact List.take_left' (by rw[List.length_append,List.length_take];omega)
  rw[Z4,a2]
theorem AdM (hT:Ol P st t es bytes zv za) (hF:YN P f st it es ov) (b n c i vc:Nat) (va:Addr) (cur:Array Value) (vs:List Value) (t1:TypeId) (w:World) (hi:i<n) (hroom:n+1≤c) (hc63:c≤9223372036854775807) (hne:va.block≠b)
 (hb:w.heap[b]?=some (.cells cur t1 (0,0))) (hv:∀(j:Nat) (v:Value),vs[j]?=some v→w.cell? (va.add j)=some v) (hcur:c*es=cur.size) (hvl:vs.length=es)
 (h1c:∀v∈cur.toList.take (n*es),v.oneCell'=true) (h1v:∀v∈vs,v.oneCell'=true):
 Calls P f #[.slice (some ⟨b,0,none⟩) n c,.int .i64 i,.slice (some va) 1 vc] w fun e w'=>
  e=.returned (.slice (some ⟨b,0,none⟩) (n+1) c)∧Below b w w'∧(∀ k,k≠b→w'.heap[k]?=w.heap[k]?)∧
  ∃rest:List Value,w'.heap[b]?=some (.cells ((cur.toList.take (n*es)).take (i*es)++vs++(cur.toList.take (n*es)).drop (i*es)++rest).toArray t1 (0,0))∧rest.length=(c-(n+1))*es:=by
 obtain⟨i0,hi0,hz0,hzs,hzb⟩:=info_parts hT.inf
 have hu:=hT.hu
 have hp:=hT.pos
 have m1:i*es+(n-i)*es=n*es:=Ig (by omega)
 have m2:i*es+1*es=(i+1)*es:=Ig rfl
 have m3:(i+1)*es+(n-i)*es=(n+1)*es:=Ig (by omega)
 have m4:(n+1)*es+(c-(n+1))*es=c*es:=Ig (by omega)
 have m5:n*es+1*es=(n+1)*es:=Ig rfl
 obtain⟨cs,hcs⟩:∃cs,cs=cur.toList.take (n*es):=⟨_,rfl⟩
 rw[← hcs]at h1c ⊢
 have hcl:cs.length=n*es:=by rw[hcs];simp;omega
 have hdl:(cs.drop (i*es)).length=(n-i)*es:=by rw[List.length_drop];omega
 obtain⟨R2,hR2⟩:∃R2:Array Value,R2=(cur.toList.take ((i+1)*es)++cs.drop (i*es)++cur.toList.drop ((i+1)*es+(cs.drop (i*es)).length)).toArray:=⟨_,rfl⟩
 have AfJ:R2.size=c*es:=by rw[hR2];simp;omega
 obtain⟨R3,Z4⟩:∃R3:Array Value,R3=(R2.toList.take (i*es)++vs++R2.toList.drop (i*es+vs.length)).toArray:=⟨_,rfl⟩
 have hA1:(w.drew).heap[b]?=some (.cells cur t1 (0,0)):=hb
 have hcpA:∀ty dc sc,(Builtin.copy_ #[st,st] ty #[.slice (some ⟨b,(i+1)*es,none⟩) (n+1-(i+1)) dc,.slice (some ⟨b,i*es,none⟩) (n+1-i) sc]).run P w.drew=.ok (goInt ((n-i:Nat):Int)) (w.drew.setRow b R2):=fun ty dc sc=>by
  have hm:Nat.min (n+1-i) (n+1-(i+1))=n-i:=by simp only[Nat.min_def];split<;>omega
  have:=GK (P:=P) (ty:=ty) (sT:=st) w.drew b ((i+1)*es) (n+1-(i+1)) dc ⟨b,i*es,none⟩ (n+1-i) sc cur t1 (cs.drop (i*es)) hu hi0 hA1 (by rw[hm,hzs,hdl]) (fun j v hj=>by
   rw[Addr.add_lit,cell_of hA1]
   rw[List.getElem?_drop,hcs,List.getElem?_take]at hj
   split at hj
   ·simpa using hj
   ·cases hj) (by omega) (fun v hv=>h1c v (List.mem_of_mem_drop hv))
  rw[hm,←hR2]at this
  exact this
 have hB1:(w.drew.setRow b R2).heap[b]?=some (.cells R2 t1 (0,0)):=setRow_heap _ _ _ _ _ _ hA1
 have hB2:(w.drew.setRow b R2).heap[va.block]?=w.heap[va.block]?:=setRow_other _ _ _ _ hne
 obtain⟨v0,hv0⟩:∃v0,vs[0]?=some v0:=⟨_,List.getElem?_eq_getElem (by omega)⟩
 have hcpB:∀ty dc,(Builtin.copy_ #[st,st] ty #[.slice (some ⟨b,i*es,none⟩) (n+1-i) dc,.slice (some va) 1 vc]).run P (w.drew.setRow b R2)=.ok (goInt 1) ((w.drew.setRow b R2).setRow b R3):=fun ty dc=>by
  have hm:Nat.min 1 (n+1-i)=1:=by simp only[Nat.min_def];split<;>omega
  have:=GK (P:=P) (ty:=ty) (sT:=st) (w.drew.setRow b R2) b (i*es) (n+1-i) dc va 1 vc R2 t1 vs hu hi0 hB1 (by rw[hm,hzs];omega) (fun j v hj=>(Ve (by rw[add_block];exact hB2)).trans (hv j v hj)) (by omega) h1v
  rw[hm,←Z4]at this
  exact this
 refine(hF.shift b n c i vc va w _ _ hi hroom hc63 (fun lb cb=>hF.apart b _ vc lb cb va cur v0 t1 w hne hb (by have:=hv 0 v0 hv0;rwa [AbM]at this) (by omega)) hcpA hcpB).mono ?_
 rintro e w' ⟨rfl,rfl⟩
 refine⟨rfl,⟨rfl,rfl,rfl,?_,fun k hk=>?_⟩,fun k hk=>?_,cur.toList.drop ((i+1)*es+(cs.drop (i*es)).length),?_,?_⟩
 ·have h1:∀(W:World) (g:Nat) (r:Array Value),(W.setRow g r).heap.size=W.heap.size:=fun W g r=>by simp
  rw[h1,h1]
  exact Nat.le_refl _
 ·exact(setRow_other _ _ _ _ (by omega)).trans (setRow_other _ _ _ _ (by omega))
 ·exact(setRow_other _ _ _ _ hk).trans (setRow_other _ _ _ _ hk)
 ·rw[setRow_heap _ _ _ _ _ _ hB1]
  have a1:cur.toList.take (i*es)=cs.take (i*es):=by rw[hcs,List.take_take];congr 1;omega
  have a2:R2.toList.take (i*es)=cs.take (i*es):=by
   rw[hR2]
   simp only[List.append_assoc]
   rw[List.take_append_of_le_length (by rw[List.length_take,Array.length_toList];omega),List.take_take,←a1]
   congr 1;omega
  have a3:R2.toList.drop (i*es+vs.length)=cs.drop (i*es)++cur.toList.drop ((i+1)*es+(cs.drop (i*es)).length):=by
   rw[hR2,hvl]
   simp only[List.append_assoc]
   exact List.drop_left' (by rw[List.length_take,Array.length_toList];omega)
  rw[Z4,a2,a3]
  simp only[List.append_assoc]
 ·rw[List.length_drop,Array.length_toList,hdl]
  omega
theorem TF (w:World) {t ty e:TypeId} {inf:TypeInfo} {zv:Value} (hu:P.underlying t=some (.slice e)) (hi:P.info? e=some inf) (hz:inf.zero=some zv) (hzs:zv.cells.size=inf.size) (g o m cap:Nat) (hm:0<m) (cur:Array Value) (t':TypeId)
 (hg:w.heap[g]?=some (.cells cur t' (0,0))) (hfit:o+m*inf.size≤cur.size) (h1:∀v∈(Builtin.zeroCells zv.cells m).toList,v.oneCell'=true):
 (Builtin.clear_ #[t] ty #[.slice (some ⟨g,o,none⟩) m cap]).run P w=.ok (.tuple #[]) (w.setRow g (cur.toList.take o++(Builtin.zeroCells zv.cells m).toList++cur.toList.drop (o+m*inf.size)).toArray):=by
 have hl:(Builtin.zeroCells zv.cells m).toList.length=m*inf.size:=by rw[Array.length_toList,size_zeroCells,hzs]
 have hst:=run_storeCells_at P g o t' (Builtin.zeroCells zv.cells m).toList 0 cur w hg (by rw[hl];simpa using hfit) h1
 obtain⟨m,rfl⟩:∃m',m=m'+1:=⟨m-1,by omega⟩
 simp only[Nat.add_zero,hl]at hst
 simp[Builtin.clear_,run_underlying hu,CS hi hz,hst]
theorem AfK (hT:Ol P st t es bytes zv za) (hF:Aa5 P f st es) (b n c i j:Nat) (cur:Array Value) (t1:TypeId) (w:World) (hij:i<j) (hj:j≤n) (hnc:n≤c) (hc63:c≤9223372036854775807)
 (hb:w.heap[b]?=some (.cells cur t1 (0,0))) (hcur:c*es=cur.size) (h1c:∀v∈cur.toList.take (n*es),v.oneCell'=true):
 Calls P f #[.slice (some ⟨b,0,none⟩) n c,.int .i64 i,.int .i64 j] w fun e w'=>
  e=.returned (.slice (some ⟨b,0,none⟩) (i+(n-j)) c)∧Below b w w'∧(∀ k,k≠b→w'.heap[k]?=w.heap[k]?)∧
  ∃rest:List Value,w'.heap[b]?=some (.cells ((cur.toList.take (n*es)).take (i*es)++(cur.toList.take (n*es)).drop (j*es)++rest).toArray t1 (0,0))∧rest.length=(c-(i+(n-j)))*es:=by
 obtain⟨i0,hi0,hz0,hzs,hzb⟩:=info_parts hT.inf
 have hu:=hT.hu
 have hp:=hT.pos
 have m1:i*es+(j-i)*es=j*es:=Ig (by omega)
 have m2:j*es+(n-j)*es=n*es:=Ig (by omega)
 have m3:n*es+(c-n)*es=c*es:=Ig (by omega)
 have m4:i*es+(n-j)*es=(i+(n-j))*es:=Ig rfl
 have m5:(i+(n-j))*es+(c-(i+(n-j)))*es=c*es:=Ig (by omega)
 have m6:(i+(n-j))*es+(j-i)*es=n*es:=Ig (by omega)
 obtain⟨cs,hcs⟩:∃cs,cs=cur.toList.take (n*es):=⟨_,rfl⟩
 rw[← hcs]at h1c ⊢
 have hcl:cs.length=n*es:=by rw[hcs];simp;omega
 have hdl:(cs.drop (j*es)).length=(n-j)*es:=by rw[List.length_drop];omega
 obtain⟨R2,hR2⟩:∃R2:Array Value,R2=(cur.toList.take (i*es)++cs.drop (j*es)++cur.toList.drop (i*es+(cs.drop (j*es)).length)).toArray:=⟨_,rfl⟩
 have AfJ:R2.size=c*es:=by rw[hR2];simp;omega
 have AjS:zv.cells.size=i0.size:=by rw[hT.zs,hzs]
 have h1z:∀v∈(Builtin.zeroCells zv.cells (j-i)).toList,v.oneCell'=true:=fun v hv=>hT.z1 v (Nk (by rw[hT.zs];exact hp) hv)
 obtain⟨A,hA,hsrc⟩:∃A:Addr,(if c=j then some (⟨b,0,none⟩:Addr)else some ⟨b,j*es,none⟩)=some A∧(∀ (q:Nat) (u:Value),(cs.drop (j*es))[q]?=some u→w.drew.cell? (A.add q)=some u):=by
  by_cases h:c=j
  ·refine⟨⟨b,0,none⟩,by simp[h],fun q u hu=>?_⟩
   have h0:(cs.drop (j*es)).length=0:=by rw[hdl,show n-j=0 by omega,Nat.zero_mul]
   rw[List.length_eq_zero_iff.1 h0]at hu
   simp at hu
  ·refine⟨⟨b,j*es,none⟩,by simp[h],fun q u hu=>?_⟩
   show w.cell? _=_
   rw[Addr.add_lit,cell_of hb]
   rw[List.getElem?_drop,hcs,List.getElem?_take]at hu
   split at hu
   ·simpa using hu
   ·cases hu
 have hap:∀ty,(Builtin.append_ #[st,st] ty #[.slice (some ⟨b,0,none⟩) i c,.slice (some A) (n-j) (c-j)]).run P w.drew=.ok (.slice (some ⟨b,0,none⟩) (i+(n-j)) c) (w.drew.setRow b R2):=fun ty=>by
  have:=run_append_room' (P:=P) (ty:=ty) (w:=w.drew) hu hi0 b i c cur t1 hb A (n-j) (c-j) (cs.drop (j*es)) (by rw[hzs,hdl]) hsrc (fun v hv=>h1c v (List.mem_of_mem_drop hv)) (by omega) (by rw[hzs,hdl];omega)
  rw[hzs,←hR2]at this
  exact this
 have hB1:(w.drew.setRow b R2).heap[b]?=some (.cells R2 t1 (0,0)):=setRow_heap _ _ _ _ _ _ (show (w.drew).heap[b]?=_ from hb)
 obtain⟨R3,Z4⟩:∃R3:Array Value,R3=(R2.toList.take ((i+(n-j))*es)++(Builtin.zeroCells zv.cells (j-i)).toList++R2.toList.drop ((i+(n-j))*es+(j-i)*i0.size)).toArray:=⟨_,rfl⟩
 have AhN:∀ty,(Builtin.clear_ #[st] ty #[.slice (some ⟨b,(i+(n-j))*es,none⟩) (n-(i+(n-j))) (c-(i+(n-j)))]).run P (w.drew.setRow b R2)=.ok (.tuple #[]) ((w.drew.setRow b R2).setRow b R3):=fun ty=>by
  rw[show n-(i+(n-j))=j-i by omega,Z4]
  exact TF (P:=P) _ hu hi0 hz0 AjS b _ (j-i) _ (by omega) R2 t1 hB1 (by rw[hzs];omega) h1z
 refine(hF.walk b n c i j A w _ _ hij hj hnc hc63 hA hap AhN).mono ?_
 rintro e w' ⟨rfl,rfl⟩
 refine⟨rfl,⟨rfl,rfl,rfl,?_,fun k hk=>?_⟩,fun k hk=>?_,(Builtin.zeroCells zv.cells (j-i)).toList++R2.toList.drop ((i+(n-j))*es+(j-i)*i0.size),?_,?_⟩
 ·have h1:∀(W:World) (g:Nat) (r:Array Value),(W.setRow g r).heap.size=W.heap.size:=fun W g r=>by simp
  rw[h1,h1]
  exact Nat.le_refl _
 ·exact(setRow_other _ _ _ _ (by omega)).trans (setRow_other _ _ _ _ (by omega))
 ·exact(setRow_other _ _ _ _ hk).trans (setRow_other _ _ _ _ hk)
 ·rw[setRow_heap _ _ _ _ _ _ hB1]
  have a1:cur.toList.take (i*es)=cs.take (i*es):=by rw[hcs,List.take_take];congr 1;omega
  have a2:R2.toList.take ((i+(n-j))*es)=cs.take (i*es)++cs.drop (j*es):=by
   rw[hR2,a1]
   exact List.take_left' (by rw[List.length_append,List.length_take,hdl];omega)
  rw[Z4,a2]
  simp only[List.append_assoc]
 ·rw[List.length_append,List.length_drop,Array.length_toList,Array.length_toList,size_zeroCells,AfJ,AjS,hzs]
  omega
theorem AdN {w:World} {Z:Bv} {φ:DN} {ctr:Nat} {a b c:AV} {vs:Array Value} (h:Dv w Z φ ctr [a,b,c] vs):∃v0 v1 v2,vs=#[v0,v1,v2]∧Rep w Z φ ctr a v0∧Rep w Z φ ctr b v1∧Rep w Z φ ctr c v2:=by
 obtain⟨hl,ha⟩:=h
 obtain⟨v0,h0,r0⟩:=ha 0 _ rfl
 obtain⟨v1,h1,r1⟩:=ha 1 _ rfl
 obtain⟨v2,h2,r2⟩:=ha 2 _ rfl
 refine⟨v0,v1,v2,?_,r0,r1,r2⟩
 apply Array.ext_getElem?
 intro i
 match i with
 |0=>exact h0
 |1=>exact h1
 |2=>exact h2
 |i+3=>rw[Array.getElem?_eq_none (by rw[← hl];simp),Array.getElem?_eq_none (by simp)]
def JY (es bytes:Nat):List AV→Ai→Option (AB×Ai)
 |[a,.int .i64 z,.sl true [x]],s=>if x.cells.length=es then match a with
  | .sl false []=>if z=0∧bytes≤2 ^ 46 then some (.ok (.own s.σ.length s.ctr 0 1),push s (.arr s.ctr es true true [x]))else none
  | .own o g 0 n=>match nth s.σ o with
    |some (.arr g' es' nn cl elems)=>
     if nn=false then
      if g=g'∧n=0∧z=0∧bytes≤2 ^ 46 then some (.ok (.own s.σ.length s.ctr 0 1),push s (.arr s.ctr es true true [x]))else none
     else if g=g'∧es'=es∧0≤z∧z.toNat≤n∧n≤elems.length∧(n+1)*bytes≤2 ^ 46 then
      some (.ok (.own o s.ctr 0 (n+1)),⟨s.σ.set o (.arr s.ctr es true cl ((elems.take n).take z.toNat++[x]++(elems.take n).drop z.toNat)),s.ctr+1⟩)
     else none
    |_=>none
  |_=>none
  else none
 |_,_=>none
set_option maxHeartbeats 1000000 in
theorem QX (hT:Ol P st t es bytes zv za) (hF:YN P f st it es ov):Ak P fun f' args s=>if f'=f then JY es bytes args s else none:=by
 intro f0 args s out s' h
 replace h:(if f0=f then JY es bytes args s else none)=some (out,s'):=h
 rcases Decidable.em (f0=f)with hf|hf
 case inr=>rw[if_neg hf]at h;cases h
 rw[if_pos hf]at h
 subst hf
 unfold JY at h
 split at h
 case h_2=>cases h
 rename_i a z y
 split at h
 case isFalse=>cases h
 rename_i hys
 refine fun w0 B Z φ w vs hI hargs=>.inl ⟨hF.fn,?_⟩
 obtain⟨v0,v1,v2,rfl,r0,r1,r2⟩:=AdN hargs
 cases r1
 obtain⟨i0,hi0,hz1,hzs,hzb⟩:=info_parts hT.inf
 have hu:=hT.hu
 have hes:=hT.pos
 have r2':=r2
 cases r2 with
 |sl _ nv vb voff Zz ves fv hnv Anh Aoe vsz vhc vhr=>
 obtain rfl:nv=1:=hnv
 obtain rfl:es=ves:=by rw[← hys];exact vsz 0 y rfl
 have hsub:elemsOf s es (.sl true [y])=some ([y],true):=rfl
 have hall:Bh es [y]:=fun q hq=>by simp at hq;rw[hq];exact hys
 obtain⟨vl,hvl⟩:∃vl:List Value,vl=(List.range es).map (fv 0):=⟨_,rfl⟩
 have AaE:vl.length=es:=by rw[hvl];simp
 have hvg:∀j,j<es→∃c,y.cells[j]?=some c∧vl[j]?=some (fv 0 j)∧w.cell? ⟨vb,voff+j,none⟩=some (fv 0 j)∧Rep w Z φ s.ctr c (fv 0 j)∧c.one=true∧c.closed=true∧Z vb (voff+j):=by
  intro j hj
  obtain⟨c,hc⟩:∃c,y.cells[j]?=some c:=⟨_,List.getElem?_eq_getElem (by omega)⟩
  obtain⟨k1,k2,k3,k4⟩:=vhc 0 y j c rfl hc
  simp only[Nat.zero_mul,Nat.add_zero]at k1 k2
  refine⟨c,hc,by rw[hvl,List.getElem?_map,List.getElem?_range hj];rfl,k2,vhr 0 y j c rfl hc,k4,k3,k1⟩
 have Agu:∀(j:Nat) (v:Value),vl[j]?=some v→w.cell? ((⟨vb,voff,none⟩:Addr).add j)=some v:=by
  intro j v hj
  have hlt:=(List.getElem?_eq_some_iff.1 hj).1
  obtain⟨c,_,k2,k3,_⟩:=hvg j (by omega)
  rw[hj]at k2
  cases k2
  rw[Addr.add_lit]
  exact k3
 have q1:AZ w Z φ s.ctr (flat [y]) vl.toArray:=by
  refine⟨by simp[flat,AaE,hys],fun i c hi=>?_⟩
  have hi':y.cells[i]?=some c:=by simpa[flat]using hi
  have hlt:=(List.getElem?_eq_some_iff.1 hi').1
  obtain⟨c',k1,k2,k3,k4,k5,_⟩:=hvg i (by omega)
  rw[hi']at k1
  cases k1
  exact⟨fv 0 i,by simpa using k2,k4,k5⟩
 have hyc:y.closed=true:=by
  have hone:∀(j:Nat) (c:AV),y.cells[j]?=some c→c.closed=true:=fun j c hj=>(vhc 0 y j c rfl hj).2.2.1
  cases y with
  |agg cs=>simp only[AV.closed];exact BZ hone
  |_=>exact hone 0 _ rfl
 have hblk:∀b,(∀ i,¬Z b i)→vb≠b:=by
  rintro b hnz rfl
  obtain⟨_,_,_,_,_,_,_,k⟩:=hvg 0 hes
  exact hnz _ k
 have AjT:bytes≤2 ^ 46→v0=.slice none 0 0→Calls P f0 #[v0,.int .i64 0,.slice (some ⟨vb,voff,none⟩) 1 Zz] w fun e w'=>∃Z' φ',Inv w0 B (push s (.arr s.ctr es true true [y])) Z' φ' w'∧Later B w Z φ s.ctr w' Z' φ' (push s (.arr s.ctr es true true [y])).ctr∧Hl w' Z' φ' (push s (.arr s.ctr es true true [y])).ctr (.ok (.own s.σ.length s.ctr 0 1)) e:=by
  rintro hby rfl
  have hev:DV es bytes s (.sl false []) [y] true=some (.own s.σ.length s.ctr 0 1,push s (.arr s.ctr es true true [y])):=by
   simp only[DV]
   rw[if_pos ⟨hall,by unfold roomy;exact Nat.le_trans (by simpa using hby) (by decide)⟩]
   rfl
  obtain⟨x,w',Z',φ',hrun,k1,k2,k3⟩:=NT (ty:=0) hI hu hT.zt hi0 hzb hT.b0 (.EI) r2' hsub hev
  obtain⟨_,hrun'⟩:∃u:Unit,∀ty,(Builtin.append_ #[st,st] ty #[.slice none 0 0,.slice (some ⟨vb,voff,none⟩) 1 Zz]).run P w=.ok x w':=⟨(),fun ty=>hrun⟩
  refine(hF.fin none 0 0 Zz ⟨vb,voff,none⟩ w w' x (fun _=>rfl) (Nat.le_refl _) hrun').mono ?_
  rintro e w1 ⟨rfl,rfl⟩
  exact⟨Z',φ',k1,k3,x,rfl,k2⟩
 split at h
 ·split at h
  case isFalse=>cases h
  rename_i hc
  obtain⟨rfl,hby⟩:=hc
  simp only[Option.some.injEq,Prod.mk.injEq]at h
  obtain⟨rfl,rfl⟩:=h
  cases r0
  exact AjT hby rfl
 rotate_left
 ·cases h
 rename_i o g n
 split at h
 case h_2=>cases h
 rename_i g' es' nn cl elems ho
 split at h
 ·rename_i hnn
  subst hnn
  split at h
  case isFalse=>cases h
  rename_i hc
  obtain⟨rfl,rfl,rfl,hby⟩:=hc
  simp only[Option.some.injEq,Prod.mk.injEq]at h
  obtain⟨rfl,rfl⟩:=h
  rw[Ar]at ho
  obtain⟨_,_,h3⟩:=hI.objs o _ ho
  cases r0 with
  |BL=>exact AjT hby rfl
  |Dq _ _ a0 hg hφ=>rw[hφ]at h3;cases h3.1
  |own _ _ _ _ b es' size cap ad hg hφ hcap ha' hs=>rw[hφ]at h3;cases h3.1
 split at h
 case isFalse=>cases h
 rename_i hnn hc
 obtain⟨rfl,rfl,hz0,hzn,hlen,hroom⟩:=hc
 simp only[Option.some.injEq,Prod.mk.injEq]at h
 obtain⟨rfl,rfl⟩:=h
 obtain⟨z,rfl⟩:∃z':Nat,z=(z':Int):=⟨z.toNat,by omega⟩
 simp only[Int.toNat_natCast]at hzn ⊢
 have ho':=ho
 rw[Ar]at ho
 obtain⟨og,_,h3⟩:=hI.objs o _ ho
 by_cases AlZ:z=n
 ·subst AlZ
  have hev:DV es' bytes s (.own o g 0 z) [y] true=some (.own o s.ctr 0 (z+1),⟨s.σ.set o (.arr s.ctr es' true cl ((elems.take z).take z++[y]++(elems.take z).drop z)),s.ctr+1⟩):=by
   simp only[DV,ho']
   rw[if_pos ⟨trivial,trivial,hlen,hall,by unfold roomy;exact Nat.le_trans (by simpa using hroom) (by decide)⟩]
   have e1:(nn||!([y]:List AV).isEmpty)=true:=by simp
   have e2:(elems.take z).take z++[y]++(elems.take z).drop z=elems.take z++[y]:=by
        rw[List.take_take,Nat.min_self,List.drop_eq_nil_of_le (by rw[List.length_take];omega),List.append_nil]
   rw[e1,e2,Bool.and_true]
   rfl
  obtain⟨x,w',Z',φ',hrun,k1,k2,k3⟩:=NT (ty:=0) hI hu hT.zt hi0 hzb hT.b0 r0 r2' hsub hev
  have fin:∀(base:Option Addr) (c:Nat),v0=.slice base z c→(base=none→z=0)→z≤c→Calls P f0 #[v0,.int .i64 z,.slice (some ⟨vb,voff,none⟩) 1 Zz] w fun e w'=>∃Z' φ',Inv w0 B ⟨s.σ.set o (.arr s.ctr es' true cl ((elems.take z).take z++[y]++(elems.take z).drop z)),s.ctr+1⟩ Z' φ' w'∧Later B w Z φ s.ctr w' Z' φ' (s.ctr+1)∧Hl w' Z' φ' (s.ctr+1) (.ok (.own o s.ctr 0 (z+1))) e:=by
   rintro base c rfl hb hzc
   refine(hF.fin base z c Zz ⟨vb,voff,none⟩ w w' x hb hzc (fun ty=>hrun)).mono ?_
   rintro e w1 ⟨rfl,rfl⟩
   exact⟨Z',φ',k1,k3,x,rfl,k2⟩
  cases r0 with
  |BL=>exact fin none 0 rfl (fun _=>rfl) (Nat.le_refl _)
  |Dq _ _ a0=>exact fin (some a0) 0 rfl (fun h=>by cases h) (Nat.le_refl _)
  |own _ _ _ _ b es' size cap ad hg hφ hcap ha' hs=>exact fin (some ad) cap rfl (fun h=>by cases h) hcap
 ·have hlt:z<n:=by omega
  cases r0 with
  |BL=>omega
  |Dq=>omega
  |own _ _ _ _ b es'' size cap ad hg hφ hcap ha' hs=>
  obtain⟨rfl,hsize,hcm⟩:=ha' (.inr rfl)
  rw[hφ]at h3
  obtain⟨rfl,he,hB,hnz,hfit,cur,ct,hw,hcs,hH⟩:=h3
  subst he
  simp only[Nat.zero_mul,Nat.zero_add]at*
  have hbne:=hblk b hnz
  have Agv:n*es''≤cur.size:=by rw[hcs];exact Nat.le_trans (Nat.mul_le_mul_right _ hlen) hfit
  have m1:z*es''+(n-z)*es''=n*es'':=Ig (by omega)
  have m2:n*es''+1*es''=(n+1)*es'':=Ig rfl
  obtain⟨p1,p2⟩:=hH.P6 hes hlen (by rw[hcs];exact hfit)
  have Zq:=OY hH
  have hAl:((elems.take n).take z).length=z:=by rw[List.length_take,List.length_take];omega
  have hpA:Bh es'' ((elems.take n).take z):=fun y hy=>p2 y (List.mem_of_mem_take hy)
  have hpB:Bh es'' ((elems.take n).drop z):=fun y hy=>p2 y (List.mem_of_mem_drop hy)
  have hfl:(flat ((elems.take n).take z)).length=z*es'':=by rw[flat_length hpA,hAl]
  have p1':AZ w Z φ s.ctr (flat ((elems.take n).take z)++flat ((elems.take n).drop z)) (cur.toList.take (n*es'')).toArray:=by
   rw[← DZ,List.take_append_drop];exact p1
  obtain⟨s1,s2⟩:=p1'.split
  rw[hfl]at s1 s2
  have hHn:Holds w Z φ s.ctr ((cur.toList.take (n*es'')).take (z*es'')++vl++(cur.toList.take (n*es'')).drop (z*es'')).toArray es'' cl ((elems.take n).take z++[y]++(elems.take n).drop z):=by
   refine AZ.holds (fun q hq=>?_) (by rw[DZ,DZ];exact(s1.append q1).append s2) (fun hc q hq=>?_)
   ·rcases List.mem_append.1 hq with hq|hq
    ·rcases List.mem_append.1 hq with hq|hq
     ·exact hpA q hq
     ·exact hall q hq
    ·exact hpB q hq
   ·rcases List.mem_append.1 hq with hq|hq
    ·rcases List.mem_append.1 hq with hq|hq
     ·exact Zq hc q (List.mem_of_mem_take (List.mem_of_mem_take hq))
     ·simp at hq;rw[hq];exact hyc
    ·exact Zq hc q (List.mem_of_mem_take (List.mem_of_mem_drop hq))
  have hlen':((elems.take n).take z++[y]++(elems.take n).drop z).length=n+1:=by
   simp only[List.length_append,List.length_take,List.length_drop,List.length_singleton];omega
  have o1:∀v∈cur.toList.take (n*es''),v.oneCell'=true:=Ih p1
  have o2':∀v∈vl,v.oneCell'=true:=Ih q1
  have hext:∀rest:List Value,Holds w Z φ s.ctr ((cur.toList.take (n*es'')).take (z*es'')++vl++(cur.toList.take (n*es'')).drop (z*es'')++rest).toArray es'' cl ((elems.take n).take z++[y]++(elems.take n).drop z):=fun rest=>hHn.extend fun k hk=>by
   rw[List.getElem?_toArray,List.getElem?_append_left hk]
  have AfL:((cur.toList.take (n*es'')).take (z*es'')++vl++(cur.toList.take (n*es'')).drop (z*es'')).length=(n+1)*es'':=by
   simp only[List.length_append,List.length_take,List.length_drop,Array.length_toList,AaE];omega
  by_cases hrm:n+1≤cap
  ·have m3:(n+1)*es''+(cap-(n+1))*es''=cap*es'':=Ig (by omega)
   refine(AdM hT hF b n cap z Zz ⟨vb,voff,none⟩ cur vl ct w hlt hrm (by unfold maxLen at hcm;omega) hbne hw Agu (by omega) AaE o1 o2').mono ?_
   rintro e w' ⟨rfl,hbel,hoth,rest,hw',hrest⟩
   obtain⟨φ',k1,k2,k3⟩:=Aay hI ho hes hφ hB hnz (hbel.mono (by omega)) hoth hw' (by
        rw[List.size_toArray,List.length_append,AfL,hrest];omega) (hext rest) hsize (by rw[hlen'];exact hrm) hcm
   rw[hlen']at k2
   exact⟨Z,φ',k1,k3,_,rfl,k2⟩
  ·refine(AfI hT hF b n cap z Zz ⟨vb,voff,none⟩ cur vl ct w hlt hcap (by omega) (by omega) hw Agu Agv AaE o1 o2').mono ?_
   rintro e w' ⟨rfl,hbel,rest,hrest,hw'⟩
   have hge:=grownCap_ge w (n+1) cap t
   have m3:(n+1)*es''+(grownCap w (n+1) cap t-(n+1))*es''=grownCap w (n+1) cap t*es'':=Ig (by omega)
   have AcA:n+1≤70368744177664:=Nat.le_trans (Nat.le_mul_of_pos_right _ hT.b0) hroom
   obtain⟨φ',k1,k2,k3⟩:=AbD hI ho hes (cap:=grownCap w (n+1) cap t) hbel hw' (hext rest) (by
        rw[List.size_toArray,List.length_append,AfL,hrest];omega) (by rw[hlen'];exact hge) (grownCap_le_maxLen w _ _ _ (by unfold maxLen;omega))
   rw[hlen']at k2
   exact⟨Z,φ',k1,k3,_,rfl,k2⟩
def delSpec (es:Nat):List AV→Ai→Option (AB×Ai)
 |[.own o g 0 n,.int .i64 z,.int .i64 y],s=>match nth s.σ o with
  |some (.arr g' es' nn cl elems)=>
   if g=g'∧es'=es∧0≤z∧z<y∧y.toNat≤n∧n≤elems.length then
    some (.ok (.own o s.ctr 0 (z.toNat+(n-y.toNat))),⟨s.σ.set o (.arr s.ctr es true cl ((elems.take n).take z.toNat++(elems.take n).drop y.toNat)),s.ctr+1⟩)
   else none
  |_=>none
 |_,_=>none
set_option maxHeartbeats 1000000 in
theorem QY (hT:Ol P st t es bytes zv za) (hF:Aa5 P f st es):Ak P fun f' args s=>if f'=f then delSpec es args s else none:=by
 intro f0 args s out s' h
 replace h:(if f0=f then delSpec es args s else none)=some (out,s'):=h
 rcases Decidable.em (f0=f)with hf|hf
 case inr=>rw[if_neg hf]at h;cases h
 rw[if_pos hf]at h
 subst hf
 unfold delSpec at h
 split at h
 case h_2=>cases h
 rename_i o g n z y
 split at h
 case h_2=>cases h
 rename_i g' es' nn cl elems ho
 split at h
 case isFalse=>cases h
 rename_i hc
 obtain⟨rfl,rfl,hz0,hzy,hyn,hlen⟩:=hc
 simp only[Option.some.injEq,Prod.mk.injEq]at h
 obtain⟨rfl,rfl⟩:=h
 obtain⟨z,rfl⟩:∃z':Nat,z=(z':Int):=⟨z.toNat,by omega⟩
 obtain⟨y,rfl⟩:∃y':Nat,y=(y':Int):=⟨y.toNat,by omega⟩
 simp only[Int.toNat_natCast]at hyn ⊢
 refine fun w0 B Z φ w vs hI hargs=>.inl ⟨hF.fn,?_⟩
 obtain⟨v0,v1,v2,rfl,r0,r1,r2⟩:=AdN hargs
 cases r1
 cases r2
 rw[Ar]at ho
 obtain⟨og,hes,h3⟩:=hI.objs o _ ho
 cases r0 with
 |BL=>omega
 |Dq=>omega
 |own _ _ _ _ b es'' size cap ad hg hφ hcap ha' hs=>
 obtain⟨rfl,hsize,hcm⟩:=ha' (.inr rfl)
 rw[hφ]at h3
 obtain⟨rfl,he,hB,hnz,hfit,cur,ct,hw,hcs,hH⟩:=h3
 subst he
 simp only[Nat.zero_mul,Nat.zero_add]at*
 have Agv:n*es''≤cur.size:=by rw[hcs];exact Nat.le_trans (Nat.mul_le_mul_right _ hlen) hfit
 have m1:z*es''+(n-z)*es''=n*es'':=Ig (by omega)
 have m2:y*es''+(n-y)*es''=n*es'':=Ig (by omega)
 have m3:z*es''+(n-y)*es''=(z+(n-y))*es'':=Ig rfl
 have m4:(z+(n-y))*es''+(cap-(z+(n-y)))*es''=cap*es'':=Ig (by omega)
 obtain⟨p1,p2⟩:=hH.P6 hes hlen (by rw[hcs];exact hfit)
 have Zq:=OY hH
 have hAl:((elems.take n).take z).length=z:=by rw[List.length_take,List.length_take];omega
 have hAy:((elems.take n).take y).length=y:=by rw[List.length_take,List.length_take];omega
 have hpA:Bh es'' ((elems.take n).take z):=fun q hq=>p2 q (List.mem_of_mem_take hq)
 have hpY:Bh es'' ((elems.take n).take y):=fun q hq=>p2 q (List.mem_of_mem_take hq)
 have hpB:Bh es'' ((elems.take n).drop y):=fun q hq=>p2 q (List.mem_of_mem_drop hq)
 have hfl:(flat ((elems.take n).take z)).length=z*es'':=by rw[flat_length hpA,hAl]
 have hfy:(flat ((elems.take n).take y)).length=y*es'':=by rw[flat_length hpY,hAy]
 have p1':AZ w Z φ s.ctr (flat ((elems.take n).take z)++flat ((elems.take n).drop z)) (cur.toList.take (n*es'')).toArray:=by
  rw[← DZ,List.take_append_drop];exact p1
 have p1y:AZ w Z φ s.ctr (flat ((elems.take n).take y)++flat ((elems.take n).drop y)) (cur.toList.take (n*es'')).toArray:=by
  rw[← DZ,List.take_append_drop];exact p1
 have s1:=p1'.split.1
 have s2:=p1y.split.2
 rw[hfl]at s1
 rw[hfy]at s2
 have hHn:Holds w Z φ s.ctr ((cur.toList.take (n*es'')).take (z*es'')++(cur.toList.take (n*es'')).drop (y*es'')).toArray es'' cl ((elems.take n).take z++(elems.take n).drop y):=by
  refine AZ.holds (fun q hq=>?_) (by rw[DZ];exact s1.append s2) (fun hc q hq=>?_)
  ·rcases List.mem_append.1 hq with hq|hq
   ·exact hpA q hq
   ·exact hpB q hq
  ·rcases List.mem_append.1 hq with hq|hq
   ·exact Zq hc q (List.mem_of_mem_take (List.mem_of_mem_take hq))
   ·exact Zq hc q (List.mem_of_mem_take (List.mem_of_mem_drop hq))
 have hlen':((elems.take n).take z++(elems.take n).drop y).length=z+(n-y):=by
  simp only[List.length_append,List.length_take,List.length_drop];omega
 have AfL:((cur.toList.take (n*es'')).take (z*es'')++(cur.toList.take (n*es'')).drop (y*es'')).length=(z+(n-y))*es'':=by
  simp only[List.length_append,List.length_take,List.length_drop,Array.length_toList];omega
 refine(AfK hT hF b n cap z y cur ct w (by omega) hyn hcap (by unfold maxLen at hcm;omega) hw (by omega) (Ih p1)).mono ?_
 rintro e w' ⟨rfl,hbel,hoth,rest,hw',hrest⟩
 obtain⟨φ',k1,k2,k3⟩:=Aay hI ho hes hφ hB hnz (hbel.mono (by omega)) hoth hw' (by
  rw[List.size_toArray,List.length_append,AfL,hrest];omega) (hHn.extend fun k hk=>by
   rw[List.getElem?_toArray,List.getElem?_append_left hk]) hsize (by rw[hlen'];omega) hcm
 rw[hlen']at k2
 exact⟨Z,φ',k1,k3,_,rfl,k2⟩
end AI
end Go.Proofs.YtchcadfjbkkgmaaGreatDoor
