/- Copying into a row; a row written anew: what the store's invariant becomes. slices.Insert of one element and slices.Delete, at elements of any size: from the walks to the table's entries. Steps at which a walk through slices.Delete takes a run from outside. slices.Insert and slices.Delete at api.Node: the walks. slices.Insert and slices.Delete at api.Edge: the walks. -/
import Derived.Test.YtgmgkkbpgndaaaaGreatDoorPSe
import Derived.Laws.CopyRow
import Derived.Shelf.Spec.SlicesInsertGrow
import Derived.Lib.AppendZerosOnto
import Derived.WalkKit
import Derived.Test.YtgmgkkbpgndaaaaGreatDoorChecked
import Derived.Deep.RegionLaw
set_option linter.unusedVariables false
set_option maxRecDepth 4000
namespace Go.Proofs.YtgmgkkbpgndaaaaGreatDoor
namespace AI
section
open Go.RowKit
variable {P:Program} {B:Nat} {w w' w0:World} {Z Z':BJ} {φ φ':Eu} {ctr CO:Nat} {s s':Ap}
theorem G7 (w:World) {dT sT ty elem:TypeId} {inf:TypeInfo} (g o dLen dCap:Nat) (a:Addr) (sLen sCap:Nat) (cur:Array Value) (t:TypeId) (cs:List Value)
 (hu:P.underlying dT=some (.slice elem)) (hi:P.info? elem=some inf)
 (hg:w.heap[g]?=some (.cells cur t (0,0))) (hn:cs.length=Nat.min sLen dLen*inf.size)
 (hsrc:∀(j:Nat) (v:Value),cs[j]?=some v→w.cell? (a.add j)=some v) (hfit:o+cs.length≤cur.size) (h1:∀v∈cs,v.oneCell'=true):
 (Builtin.copy_ #[dT,sT] ty #[.slice (some ⟨g,o,none⟩) dLen dCap,.slice (some a) sLen sCap]).run P w=
   .ok (goInt (Nat.min sLen dLen)) (w.setRow g (cur.toList.take o++cs++cur.toList.drop (o+cs.length)).toArray):=by
 have hf:=run_firstCells_some (P:=P) w inf.size (Nat.min sLen dLen) a sLen sCap cs hn hsrc
 have hst:=run_storeCells_at P g o t cs 0 cur w hg (by simpa using hfit) h1
 simp only[Nat.add_zero]at hst
 simp[Builtin.copy_,run_underlying hu,Builtin.lenOf,sizeOf,typeInfo,hi,hf,hst]
theorem Aaf (hI:Inv w0 B s Z φ w) {o g es:Nat} {nn cl cl':Bool} {elems elems':List AV} (ho:s.σ[o]?=some (.arr g es nn cl elems)) (h0:0<es) {w1:World} {cells:Array Value} {e:TypeId} {cap:Nat}
 (hbel:Below w.heap.size w w1) (hw1:w1.heap[w.heap.size]?=some (.cells cells e (0,0))) (hH:Holds w Z φ s.ctr cells es cl' elems') (hcap:cap*es=cells.size) (hle:elems'.length≤cap) (hmx:cap≤maxLen):
 ∃φ',Inv w0 B ⟨s.σ.set o (.arr s.ctr es true cl' elems'),s.ctr+1⟩ Z φ' w1∧Rep w1 Z φ' (s.ctr+1) (.own o s.ctr 0 elems'.length) (.slice (some ⟨w.heap.size,0,none⟩) elems'.length cap)∧Later B w Z φ s.ctr w1 Z φ' (s.ctr+1):=by
 have hL:Later B w Z φ s.ctr w1 Z (BO φ s.ctr (.row w.heap.size es cells.size)) (s.ctr+1):=Fg hI hbel (fun _ _ h=>h) (fun _ _ h=>.inl h) (fun g hg=>ED φ _ hg) (by omega)
 refine⟨_,hI.set ho (hbel.mono hI.base) hL (fun b i h=>Nat.lt_of_lt_of_le (hI.live b i h) hbel.size) (fun o' ob' g' b' e' n' _ ho' hg' hφ'=>⟨hbel.block b' ((hI.objs o' ob' ho').place hg' hφ').1,fun i h=>h⟩) ?_ (fun g' b' e' n' hg' hφ'=>?_),?_,hL⟩
 ·refine⟨by omega,h0,?_⟩
  rw[Ai]
  refine⟨rfl,rfl,hI.base,fun i hz=>?_,?_,cells,e,hw1,rfl,hH.later hL⟩
  ·have:=hI.live _ i hz;omega
  ·rw[← hcap];exact Nat.mul_le_mul_right _ hle
 ·simp only[Obj.gen,Option.some.injEq]at hg'
  subst hg'
  rw[Ai]at hφ'
  simp only[SQ.row.injEq]at hφ'
  exact .inl (by omega)
 ·exact .own _ _ _ _ w.heap.size es cells.size cap _ (by omega) (Ai _ _ _) hle (fun _=>⟨by simp,by simpa using hcap,hmx⟩) rfl
theorem Zi (hI:Inv w0 B s Z φ w) {o g es:Nat} {nn cl cl':Bool} {elems elems':List AV} (ho:s.σ[o]?=some (.arr g es nn cl elems)) (h0:0<es) {b size cap:Nat} (hφ:φ g=.row b es size) (hB:B≤b) (hnz:∀i,¬Z b i) {w1:World} {cells:Array Value} {t:TypeId}
 (hbel:Below B w w1) (hoth:∀k,k≠b→w1.heap[k]?=w.heap[k]?) (hw1:w1.heap[b]?=some (.cells cells t (0,0))) (hsz:cells.size=size) (hH:Holds w Z φ s.ctr cells es cl' elems') (hcap:cap*es=size) (hle:elems'.length≤cap) (hmx:cap≤maxLen):
 ∃φ',Inv w0 B ⟨s.σ.set o (.arr s.ctr es true cl' elems'),s.ctr+1⟩ Z φ' w1∧Rep w1 Z φ' (s.ctr+1) (.own o s.ctr 0 elems'.length) (.slice (some ⟨b,0,none⟩) elems'.length cap)∧Later B w Z φ s.ctr w1 Z φ' (s.ctr+1):=by
 have hL:Later B w Z φ s.ctr w1 Z (BO φ s.ctr (.row b es size)) (s.ctr+1):=by
  refine⟨fun _ _ h=>.inl h,by omega,fun _ _ h=>h,fun b' i h=>?_,fun g hg=>ED φ _ hg⟩
  refine hoth b' ?_
  rintro rfl
  exact hnz i h
 refine⟨_,hI.set ho hbel hL (fun b' i h=>Nat.lt_of_lt_of_le (hI.live b' i h) hbel.size) (fun o' ob' g' b' e' n' hne' ho' hg' hφ'=>⟨hoth b' ?_,fun i h=>h⟩) ⟨by omega,h0,?_⟩ (fun g' b' e' n' hg' hφ'=>?_),?_,hL⟩
 ·rintro rfl
  exact hne' (hI.apart o' o ob' _ g' g _ _ _ _ _ ho' ho hg' rfl hφ' hφ)
 ·rw[Ai]
  exact⟨rfl,rfl,hB,hnz,by rw[← hcap];exact Nat.mul_le_mul_right _ hle,cells,t,hw1,hsz,hH.later hL⟩
 ·simp only[Obj.gen,Option.some.injEq]at hg'
  subst hg'
  rw[Ai]at hφ'
  simp only[SQ.row.injEq]at hφ'
  obtain⟨rfl,_⟩:=hφ'
  exact .inr ⟨g,_,_,rfl,hφ⟩
 ·exact .own _ _ _ _ b es size cap _ (Nat.lt_succ_self _) (Ai _ _ _) hle (fun _=>⟨by simp,by simpa using hcap,hmx⟩) rfl
end
section
set_option linter.unusedSimpArgs false
open Go.RowKit Go.Lib
theorem cell_of {w:World} {b:Nat} {c:Array Value} {t:TypeId} (h:w.heap[b]?=some (.cells c t (0,0))) (j:Nat):w.cell? ⟨b,j,none⟩=c[j]?:=by
 simp[World.cell?,h]
theorem Aa1 {w:World} {a:Addr} {v:Value} (h:w.cell? a=some v):a.block<w.heap.size:=by
 rcases Nat.lt_or_ge a.block w.heap.size with hlt|hge
 ·exact hlt
 ·have:w.heap[a.block]?=none:=Array.getElem?_eq_none hge
  simp[World.cell?,this]at h
theorem N7 {w:World} {a:Addr} {v:Value} (h:w.cell? a=some v):∃t n,w.shape? a.block=some (t,n)∧n≠0:=by
 unfold World.cell? at h
 split at h
 ·rename_i c t fr hb
  split at h
  ·cases h
  ·refine⟨t,c.size,by simp[World.shape?,hb],fun h0=>?_⟩
   have:c[a.off]?=none:=Array.getElem?_eq_none (by omega)
   rw[this]at h
   cases h
 ·cases h
theorem UF {w w':World} {a:Addr} (hb:w'.heap[a.block]?=w.heap[a.block]?):w'.cell? a=w.cell? a:=by
 simp only[World.cell?,hb]
theorem add_block (a:Addr) (j:Nat):(a.add j).block=a.block:=by
 unfold Addr.add
 split<;>rfl
theorem Aa2 (a:Addr):a.add 0=a:=by
 obtain⟨b,o,s⟩:=a
 cases s<;>simp[Addr.add]
theorem Ip {a b c es:Nat} (h:a+b=c):a*es+b*es=c*es:=by rw[← Nat.add_mul,h]
theorem Bh.split {w:World} {Z:BJ} {φ:Eu} {ctr:Nat} {xs ys:List AV} {vs:List Value} (h:Bh w Z φ ctr (xs++ys) vs.toArray):Bh w Z φ ctr xs (vs.take xs.length).toArray∧Bh w Z φ ctr ys (vs.drop xs.length).toArray:=by
 have hl:xs.length+ys.length=vs.length:=by simpa using h.1
 refine⟨⟨by simp;omega,fun i c hi=>?_⟩,⟨by simp;omega,fun i c hi=>?_⟩⟩
 ·have hlt:=(List.getElem?_eq_some_iff.1 hi).1
  obtain⟨v,a,b⟩:=h.2 i c (by rw[List.getElem?_append_left hlt];exact hi)
  refine⟨v,?_,b⟩
  have:vs[i]?=some v:=by simpa using a
  simp[List.getElem?_take_of_lt hlt,this]
 ·obtain⟨v,a,b⟩:=h.2 (xs.length+i) c (by rw[List.getElem?_append_right (by omega)];simpa using hi)
  refine⟨v,?_,b⟩
  have:vs[xs.length+i]?=some v:=by simpa using a
  simp[List.getElem?_drop,this]
theorem Oy {w:World} {Z:BJ} {φ:Eu} {ctr es:Nat} {c:Array Value} {cl:Bool} {elems:List AV} (hH:Holds w Z φ ctr c es cl elems) (hc:cl=true):∀y∈elems,y.closed=true:=by
 intro y hy
 obtain⟨i,hi⟩:=List.mem_iff_getElem?.1 hy
 have hone:∀(j:Nat) (c:AV),y.cells[j]?=some c→c.closed=true:=by
  intro j c hj
  obtain⟨_,_,_,_,k⟩:=(hH i y hi).2 j c hj
  exact k hc
 cases y with
 |agg cs=>simp only[AV.closed];exact CP hone
 |_=>exact hone 0 _ rfl
theorem Fh {P:Program} (w:World) (tS tR e:TypeId) (ht:P.underlying tS=some (.slice e)) (size:Nat) (hz:∀w,(Go.sizeOf e).run P w=.ok size w)
 (a b:Addr) (la ca lb cb:Nat) (hne:a.block≠b.block) (tA tB:TypeId) (kA kB:Nat)
 (hsa:w.shape? a.block=some (tA,kA)) (hsb:w.shape? b.block=some (tB,kB)) (hkA:kA≠0)
 (hfb:w.frozen? b=false) (hfe:w.frozen? {block:=b.block,off:=kB}=false):
 (Extern.SlicesOverlaps.overlaps #[tS,tS] #[tR] #[.slice (some a) la ca,.slice (some b) lb cb]).run P w=.ok (.bool false) w:=by
 have hnb:(a.block != b.block)=true:=by simpa using hne
 have hnb':(a.block==b.block)=false:=by simpa using hne
 change Sem.run P (α:=Value) (do
  let some t := (#[tS, tS] : Array TypeId)[0]? | stuck "slices.overlaps: no parameter types"
  let .slice elem ← underlying t | stuck "slices.overlaps: slice type expected"
  let size ←sizeOf elem
  match(some a:Option Addr),(some b:Option Addr)with
  |some a,some b=>
   if la=0∨lb=0∨size=0 then pure (Value.bool false)
   else if a.block != b.block&&(← frozen a)&&(← frozen b)then unsupported .addressObserved
   else do
        if a.block != b.block then do
         noView a;noView b
         if ← mayBeOne a b then return Value.bool ((← choose (.extern "sameAddr.stringBytes" 2)) == 1)
        pure (Value.bool (a.block==b.block&&a.off<b.off+lb*size&&b.off<a.off+la*size))
  |_,_=>pure (Value.bool false)) w=_
 by_cases h0:la=0∨lb=0∨size=0
 ·simp[run_underlying ht,hz,h0]
 ·cases kA with
  |zero=>exact absurd rfl hkA
  |succ kA=>
   cases h1:w.frozen? a<;>cases h2:w.frozen? {block:=a.block,off:=kA+1}<;>simp[run_underlying ht,hz,h0,hnb,hnb',frozen,noView,viewAt,mayBeOne,stringish,shape,Sem.run,hsa,hsb,hfb,hfe,h1,h2]
structure NZ (P:Program) (st t es bytes:Nat) (zv:Value) (za:AV):Prop where
 pos:0<es
 b0:0<bytes
 hu:P.underlying st=some (.slice t)
 inf:(P.info? t).map (fun i=>(i.zero,i.size,i.bytes))=some (some zv,es,bytes)
 zt:EJ P t=some (es,za)
 zs:zv.cells.size=es
 z1:∀v∈zv.cells.toList,v.oneCell'=true
structure Yu (P:Program) (f st it es ov:Nat):Prop where
 fn:AbW P f
 iu:P.underlying it=some (.int .i64)
 fin:∀(base:Option Addr) (n c vc:Nat) (va:Addr) (w w1:World) (x:Value),(base=none→n=0)→n≤c→
  (∀ ty,(Builtin.append_ #[st,st] ty #[.slice base n c,.slice (some va) 1 vc]).run P w=.ok x w1)→
  Calls P f #[.slice base n c,.int .i64 n,.slice (some va) 1 vc] w fun e w'=>e=.returned x∧w'=w1
 grow:∀(b n c i vc G:Nat) (va:Addr) (w w1 w2 w3:World),i<n→n≤c→c<n+1→n+1≤G→G≤9223372036854775807→n≤70368744177664→
  (∀ ty,(Builtin.append_ #[st,it] ty #[.slice (some ⟨b,0,none⟩) i c,.int .i64 ((n:Int)+1-(i:Int))]).run P w=.ok (.slice (some ⟨w.heap.size,0,none⟩) (n+1) G) w1)→
  (∀ ty dc,(Builtin.copy_ #[st,st] ty #[.slice (some ⟨w.heap.size,i*es,none⟩) (n+1-i) dc,.slice (some va) 1 vc]).run P w1=.ok (goInt 1) w2)→
  (∀ ty dc sc,(Builtin.copy_ #[st,st] ty #[.slice (some ⟨w.heap.size,(i+1)*es,none⟩) (n+1-(i+1)) dc,.slice (some ⟨b,i*es,none⟩) (n-i) sc]).run P w2.drew=.ok (goInt ((n-i:Nat):Int)) w3)→
  Calls P f #[.slice (some ⟨b,0,none⟩) n c,.int .i64 i,.slice (some va) 1 vc] w fun e w'=>e=.returned (.slice (some ⟨w.heap.size,0,none⟩) (n+1) G)∧w'=w3
 apart:∀(b o vc lb cb:Nat) (va:Addr) (cur:Array Value) (v:Value) (t1:TypeId) (w:World),va.block≠b→w.heap[b]?=some (.cells cur t1 (0,0))→w.cell? va=some v→0<cur.size→
  (callFunc ov #[.slice (some va) 1 vc,.slice (some ⟨b,o,none⟩) lb cb]).run P w=.ok (.value (.bool false)) w
 shift:∀(b n c i vc:Nat) (va:Addr) (w w2 w3:World),i<n→n+1≤c→c≤9223372036854775807→
  (∀ lb cb,(callFunc ov #[.slice (some va) 1 vc,.slice (some ⟨b,(i+1)*es,none⟩) lb cb]).run P w=.ok (.value (.bool false)) w)→
  (∀ ty dc sc,(Builtin.copy_ #[st,st] ty #[.slice (some ⟨b,(i+1)*es,none⟩) (n+1-(i+1)) dc,.slice (some ⟨b,i*es,none⟩) (n+1-i) sc]).run P w.drew=.ok (goInt ((n-i:Nat):Int)) w2)→
  (∀ ty dc,(Builtin.copy_ #[st,st] ty #[.slice (some ⟨b,i*es,none⟩) (n+1-i) dc,.slice (some va) 1 vc]).run P w2=.ok (goInt 1) w3)→
  Calls P f #[.slice (some ⟨b,0,none⟩) n c,.int .i64 i,.slice (some va) 1 vc] w fun e w'=>e=.returned (.slice (some ⟨b,0,none⟩) (n+1) c)∧w'=w3
structure AaF (P:Program) (f st es:Nat):Prop where
 fn:AbW P f
 walk:∀(b n c i j:Nat) (A:Addr) (w w2 w3:World),i<j→j≤n→n≤c→c≤9223372036854775807→(if c=j then some (⟨b,0,none⟩:Addr)else some ⟨b,j*es,none⟩)=some A→
  (∀ ty,(Builtin.append_ #[st,st] ty #[.slice (some ⟨b,0,none⟩) i c,.slice (some A) (n-j) (c-j)]).run P w.drew=.ok (.slice (some ⟨b,0,none⟩) (i+(n-j)) c) w2)→
  (∀ ty,(Builtin.clear_ #[st] ty #[.slice (some ⟨b,(i+(n-j))*es,none⟩) (n-(i+(n-j))) (c-(i+(n-j)))]).run P w2=.ok (.tuple #[]) w3)→
  Calls P f #[.slice (some ⟨b,0,none⟩) n c,.int .i64 i,.int .i64 j] w fun e w'=>e=.returned (.slice (some ⟨b,0,none⟩) (i+(n-j)) c)∧w'=w3
variable {P:Program} {st t es bytes:Nat} {zv:Value} {za:AV} {f it ov:Nat}
theorem Ae0 (hT:NZ P st t es bytes zv za) (hF:Yu P f st it es ov) (b n c i vc:Nat) (va:Addr) (cur:Array Value) (vs:List Value) (t1:TypeId) (w:World) (hi:i<n) (hnc:n≤c) (hroom:c<n+1) (hbig:(n+1)*bytes≤70368744177664)
 (hb:w.heap[b]?=some (.cells cur t1 (0,0))) (hv:∀(j:Nat) (v:Value),vs[j]?=some v→w.cell? (va.add j)=some v) (hcur:n*es≤cur.size) (hvl:vs.length=es)
 (h1c:∀v∈cur.toList.take (n*es),v.oneCell'=true) (h1v:∀v∈vs,v.oneCell'=true):
 Calls P f #[.slice (some ⟨b,0,none⟩) n c,.int .i64 i,.slice (some va) 1 vc] w fun e w'=>
  e=.returned (.slice (some ⟨w.heap.size,0,none⟩) (n+1) (grownCap w (n+1) c t))∧Below w.heap.size w w'∧
  ∃rest:List Value,rest.length=(grownCap w (n+1) c t-(n+1))*es∧w'.heap[w.heap.size]?=some (.cells ((cur.toList.take (n*es)).take (i*es)++vs++(cur.toList.take (n*es)).drop (i*es)++rest).toArray t (0,0)):=by
 obtain⟨i0,hi0,hz0,hzs,hzb⟩:=info_parts hT.inf
 have hu:=hT.hu
 have hp:=hT.pos
 have hb0:=hT.b0
 have Ace:n+1≤70368744177664:=Nat.le_trans (Nat.le_mul_of_pos_right _ hb0) hbig
 obtain⟨cs,hcs⟩:∃cs,cs=cur.toList.take (n*es):=⟨_,rfl⟩
 rw[← hcs]at h1c ⊢
 have hcl:cs.length=n*es:=by rw[hcs];simp;omega
 have m1:i*es+(n-i)*es=n*es:=Ip (by omega)
 have m2:i*es+1*es=(i+1)*es:=Ip rfl
 have m3:(i+1)*es+(n-i)*es=(n+1)*es:=Ip (by omega)
 have Aky:zv.cells.size=es:=hT.zs
 obtain⟨G,hG⟩:∃G,G=grownCap w (n+1) c t:=⟨_,rfl⟩
 have hGn:n+1≤G:=by rw[hG];exact grownCap_ge w _ _ _
 have hG63:G≤9223372036854775807:=by
  have:=grownCap_le_maxLen w (n+1) c t (by unfold maxLen;omega)
  rw[← hG]at this
  unfold maxLen at this
  omega
 have m4:(n+1)*es+(G-(n+1))*es=G*es:=Ip (by omega)
 have m5:i*es+(n+1-i)*es=(n+1)*es:=Ip (by omega)
 have AiQ:(Builtin.firstCells i0.size i (.slice (some ⟨b,0,none⟩) i c)).run P w.drew=.ok (cs.take (i*es)).toArray w.drew:=by
  rw[hzs]
  refine run_firstCells_some w.drew es i ⟨b,0,none⟩ i c (cs.take (i*es)) (by rw[List.length_take];omega) (fun j v hj=>?_)
  rw[Addr.add_lit,Nat.zero_add]
  show w.cell? _=_
  rw[cell_of hb]
  rw[List.getElem?_take]at hj
  split at hj
  ·rw[hcs,List.getElem?_take]at hj
   split at hj
   ·simpa using hj
   ·cases hj
  ·cases hj
 obtain⟨ROW,hROW⟩:∃ROW:Array Value,ROW=(cs.take (i*es)).toArray++Builtin.zeroCells zv.cells (n+1-i)++Builtin.zeroCells zv.cells (G-(n+1)):=⟨_,rfl⟩
 have hrz:∀ty,(Builtin.append_ #[st,it] ty #[.slice (some ⟨b,0,none⟩) i c,.int .i64 ((n:Int)+1-(i:Int))]).run P w=
  .ok (.slice (some ⟨w.heap.size,0,none⟩) (n+1) G) (w.drew.alloc (.cells ROW t)):=fun ty=>by
  have h:=Lib.run_append_grow_zeros (P:=P) w st it ty t i0 _ .i64 .i64 hu hF.iu hi0 hz0 (some ⟨b,0,none⟩) i c (cs.take (i*es)) AiQ (n+1-i) (by omega) (by omega) (by omega) (by omega) (by rw[hzb];exact Nat.le_trans (Nat.mul_le_mul_right _ (show n+1-i≤n+1 by omega)) (by omega)) (by rw[hzb,show i+(n+1-i)=n+1 by omega];exact growslice_fits hroom (by omega))
  rw[show i+(n+1-i)=n+1 by omega,←hG]at h
  rw[show (n:Int)+1-(i:Int)=((n+1-i:Nat):Int) by omega,hROW]
  exact h
 have hRs:ROW.size=G*es:=by
  rw[hROW]
  simp only[Array.size_append,List.size_toArray,size_zeroCells,Aky,List.length_take]
  omega
 have hbw:b<w.heap.size:=(Array.getElem?_eq_some_iff.1 hb).1
 obtain⟨v0,hv0⟩:∃v0,vs[0]?=some v0:=⟨_,List.getElem?_eq_getElem (by omega)⟩
 have hvw:va.block<w.heap.size:=Aa1 (hv 0 v0 hv0)
 obtain⟨w1,hw1⟩:∃w1,w1=w.drew.alloc (.cells ROW t):=⟨_,rfl⟩
 have hA1:w1.heap[w.heap.size]?=some (.cells ROW t (0,0)):=by rw[hw1];exact heap_alloc_new w.drew _
 have hA2:∀k,k<w.heap.size→w1.heap[k]?=w.heap[k]?:=fun k hk=>by
  rw[hw1]
  show(w.heap.push _)[k]?=_
  rw[Array.getElem?_push_lt (by omega)]
  exact(Array.getElem?_eq_getElem (by omega)).symm
 have hAs:w1.heap.size=w.heap.size+1:=by rw[hw1];show(w.heap.push _).size=_;simp
 have hAb:Below w.heap.size w w1:=by
  refine⟨?_,?_,?_,by omega,fun k hk=>hA2 k hk⟩<;>(rw [hw1];rfl)
 obtain⟨R2,hR2⟩:∃R2:Array Value,R2=(ROW.toList.take (i*es)++vs++ROW.toList.drop (i*es+vs.length)).toArray:=⟨_,rfl⟩
 have Ae1:R2.size=G*es:=by rw[hR2];simp;omega
 obtain⟨R3,hR3⟩:∃R3:Array Value,R3=(R2.toList.take ((i+1)*es)++cs.drop (i*es)++R2.toList.drop ((i+1)*es+(cs.drop (i*es)).length)).toArray:=⟨_,rfl⟩
 have hdl:(cs.drop (i*es)).length=(n-i)*es:=by rw[List.length_drop];omega
 have hcpA:∀ty dc,(Builtin.copy_ #[st,st] ty #[.slice (some ⟨w.heap.size,i*es,none⟩) (n+1-i) dc,.slice (some va) 1 vc]).run P w1=.ok (goInt 1) (w1.setRow w.heap.size R2):=fun ty dc=>by
  have hm:Nat.min 1 (n+1-i)=1:=by simp only[Nat.min_def];split<;>omega
  have:=G7 (P:=P) (ty:=ty) (sT:=st) w1 w.heap.size (i*es) (n+1-i) dc va 1 vc ROW t vs hu hi0 hA1 (by rw[hm,hzs];omega) (fun j v hj=>(UF (by rw[add_block];exact hA2 va.block hvw)).trans (hv j v hj)) (by omega) h1v
  rw[hm,←hR2]at this
  exact this
 have hB1:(w1.setRow w.heap.size R2).drew.heap[w.heap.size]?=some (.cells R2 t (0,0)):=setRow_heap _ _ _ _ _ _ hA1
 have hB2:∀k,k<w.heap.size→((w1.setRow w.heap.size R2).drew).heap[k]?=w.heap[k]?:=fun k hk=>(setRow_other _ _ _ _ (by omega)).trans (hA2 k hk)
 have hcpB:∀ty dc sc,(Builtin.copy_ #[st,st] ty #[.slice (some ⟨w.heap.size,(i+1)*es,none⟩) (n+1-(i+1)) dc,.slice (some ⟨b,i*es,none⟩) (n-i) sc]).run P (w1.setRow w.heap.size R2).drew=.ok (goInt ((n-i:Nat):Int)) ((w1.setRow w.heap.size R2).drew.setRow w.heap.size R3):=fun ty dc sc=>by
  have hm:Nat.min (n-i) (n+1-(i+1))=n-i:=by simp only[Nat.min_def];split<;>omega
  have:=G7 (P:=P) (ty:=ty) (sT:=st) (w1.setRow w.heap.size R2).drew w.heap.size ((i+1)*es) (n+1-(i+1)) dc ⟨b,i*es,none⟩ (n-i) sc R2 t (cs.drop (i*es)) hu hi0 hB1 (by rw[hm,hzs,hdl]) (fun j v hj=>by
   rw[Addr.add_lit,cell_of ((hB2 b hbw).trans hb)]
   rw[List.getElem?_drop,hcs,List.getElem?_take]at hj
   split at hj
   ·simpa using hj
   ·cases hj) (by omega) (fun v hv=>h1c v (List.mem_of_mem_drop hv))
  rw[hm,←hR3]at this
  exact this
 have hsz:∀(W:World) (g:Nat) (r:Array Value),(W.setRow g r).heap.size=W.heap.size:=fun W g r=>by simp
 refine(hF.grow b n c i vc G va w w1 _ _ hi hnc hroom hGn hG63 (by omega) (fun ty=>by rw[hw1];exact hrz ty) hcpA hcpB).mono ?_
 rintro e w' ⟨rfl,rfl⟩
 have hBb:Below w.heap.size w ((w1.setRow w.heap.size R2).drew.setRow w.heap.size R3):=by
  refine⟨hAb.1,hAb.2,hAb.3,?_,fun k hk=>(setRow_other _ _ _ _ (by omega)).trans (hB2 k hk)⟩
  rw[hsz]
  show w.heap.size≤(w1.setRow w.heap.size R2).heap.size
  rw[hsz,hAs]
  omega
 refine⟨by rw[hG],hBb,R2.toList.drop ((i+1)*es+(cs.drop (i*es)).length),?_,?_⟩
 ·rw[List.length_drop,Array.length_toList,Ae1,hdl,←hG]
  omega
 ·rw[setRow_heap _ _ _ _ _ _ hB1]
  have a1:ROW.toList.take (i*es)=cs.take (i*es):=by
   rw[hROW]
   simp only[Array.toList_append,List.append_assoc]
   exact List.take_left' (by rw[List.length_take];omega)
  have a2:R2.toList.take ((i+1)*es)=cs.take (i*es)++vs:=by
   rw[hR2,a1]
   exact List.take_left' (by rw[List.length_append,List.length_take];omega)
  rw[hR3,a2]
theorem Adw (hT:NZ P st t es bytes zv za) (hF:Yu P f st it es ov) (b n c i vc:Nat) (va:Addr) (cur:Array Value) (vs:List Value) (t1:TypeId) (w:World) (hi:i<n) (hroom:n+1≤c) (hc63:c≤9223372036854775807) (hne:va.block≠b)
 (hb:w.heap[b]?=some (.cells cur t1 (0,0))) (hv:∀(j:Nat) (v:Value),vs[j]?=some v→w.cell? (va.add j)=some v) (hcur:c*es=cur.size) (hvl:vs.length=es)
 (h1c:∀v∈cur.toList.take (n*es),v.oneCell'=true) (h1v:∀v∈vs,v.oneCell'=true):
 Calls P f #[.slice (some ⟨b,0,none⟩) n c,.int .i64 i,.slice (some va) 1 vc] w fun e w'=>
  e=.returned (.slice (some ⟨b,0,none⟩) (n+1) c)∧Below b w w'∧(∀ k,k≠b→w'.heap[k]?=w.heap[k]?)∧
  ∃rest:List Value,w'.heap[b]?=some (.cells ((cur.toList.take (n*es)).take (i*es)++vs++(cur.toList.take (n*es)).drop (i*es)++rest).toArray t1 (0,0))∧rest.length=(c-(n+1))*es:=by
 obtain⟨i0,hi0,hz0,hzs,hzb⟩:=info_parts hT.inf
 have hu:=hT.hu
 have hp:=hT.pos
 have m1:i*es+(n-i)*es=n*es:=Ip (by omega)
 have m2:i*es+1*es=(i+1)*es:=Ip rfl
 have m3:(i+1)*es+(n-i)*es=(n+1)*es:=Ip (by omega)
 have m4:(n+1)*es+(c-(n+1))*es=c*es:=Ip (by omega)
 have m5:n*es+1*es=(n+1)*es:=Ip rfl
 obtain⟨cs,hcs⟩:∃cs,cs=cur.toList.take (n*es):=⟨_,rfl⟩
 rw[← hcs]at h1c ⊢
 have hcl:cs.length=n*es:=by rw[hcs];simp;omega
 have hdl:(cs.drop (i*es)).length=(n-i)*es:=by rw[List.length_drop];omega
 obtain⟨R2,hR2⟩:∃R2:Array Value,R2=(cur.toList.take ((i+1)*es)++cs.drop (i*es)++cur.toList.drop ((i+1)*es+(cs.drop (i*es)).length)).toArray:=⟨_,rfl⟩
 have Ae1:R2.size=c*es:=by rw[hR2];simp;omega
 obtain⟨R3,hR3⟩:∃R3:Array Value,R3=(R2.toList.take (i*es)++vs++R2.toList.drop (i*es+vs.length)).toArray:=⟨_,rfl⟩
 have hA1:(w.drew).heap[b]?=some (.cells cur t1 (0,0)):=hb
 have hcpA:∀ty dc sc,(Builtin.copy_ #[st,st] ty #[.slice (some ⟨b,(i+1)*es,none⟩) (n+1-(i+1)) dc,.slice (some ⟨b,i*es,none⟩) (n+1-i) sc]).run P w.drew=.ok (goInt ((n-i:Nat):Int)) (w.drew.setRow b R2):=fun ty dc sc=>by
  have hm:Nat.min (n+1-i) (n+1-(i+1))=n-i:=by simp only[Nat.min_def];split<;>omega
  have:=G7 (P:=P) (ty:=ty) (sT:=st) w.drew b ((i+1)*es) (n+1-(i+1)) dc ⟨b,i*es,none⟩ (n+1-i) sc cur t1 (cs.drop (i*es)) hu hi0 hA1 (by rw[hm,hzs,hdl]) (fun j v hj=>by
   rw[Addr.add_lit,cell_of hA1]
   rw[List.getElem?_drop,hcs,List.getElem?_take]at hj
   split at hj
   ·simpa using hj
   ·cases hj) (by omega) (fun v hv=>h1c v (List.mem_of_mem_drop hv))
  rw[hm,←hR2]at this
  exact this
 have hB1:(w.drew.setRow b R2).heap[b]?=some (.cells R2 t1 (0,0)):=setRow_heap _ _ _ _ _ _ hA1
 have hB2:(w.drew.setRow b R2).heap[va.block]?=w.heap[va.block]?:=setRow_other _ _ _ _ hne
 obtain⟨v0,hv0⟩:∃v0,vs[0]?=some v0:=⟨_,List.getElem?_eq_getElem (by omega)⟩
 have hcpB:∀ty dc,(Builtin.copy_ #[st,st] ty #[.slice (some ⟨b,i*es,none⟩) (n+1-i) dc,.slice (some va) 1 vc]).run P (w.drew.setRow b R2)=.ok (goInt 1) ((w.drew.setRow b R2).setRow b R3):=fun ty dc=>by
  have hm:Nat.min 1 (n+1-i)=1:=by simp only[Nat.min_def];split<;>omega
  have:=G7 (P:=P) (ty:=ty) (sT:=st) (w.drew.setRow b R2) b (i*es) (n+1-i) dc va 1 vc R2 t1 vs hu hi0 hB1 (by rw[hm,hzs];omega) (fun j v hj=>(UF (by rw[add_block];exact hB2)).trans (hv j v hj)) (by omega) h1v
  rw[hm,←hR3]at this
  exact this
 refine(hF.shift b n c i vc va w _ _ hi hroom hc63 (fun lb cb=>hF.apart b _ vc lb cb va cur v0 t1 w hne hb (by have:=hv 0 v0 hv0;rwa [Aa2]at this) (by omega)) hcpA hcpB).mono ?_
 rintro e w' ⟨rfl,rfl⟩
 refine⟨rfl,⟨rfl,rfl,rfl,?_,fun k hk=>?_⟩,fun k hk=>?_,cur.toList.drop ((i+1)*es+(cs.drop (i*es)).length),?_,?_⟩
 ·have h1:∀(W:World) (g:Nat) (r:Array Value),(W.setRow g r).heap.size=W.heap.size:=fun W g r=>by simp
  rw[h1,h1]
  exact Nat.le_refl _
 ·exact(setRow_other _ _ _ _ (by omega)).trans (setRow_other _ _ _ _ (by omega))
 ·exact(setRow_other _ _ _ _ hk).trans (setRow_other _ _ _ _ hk)
 ·rw[setRow_heap _ _ _ _ _ _ hB1]
  have a1:cur.toList.take (i*es)=cs.take (i*es):=by rw[hcs,List.take_take];congr 1;omega
  have a2:R2.toList.take (i*es)=cs.take (i*es):=by
   rw[hR2]
   simp only[List.append_assoc]
   rw[List.take_append_of_le_length (by rw[List.length_take,Array.length_toList];omega),List.take_take,←a1]
   congr 1;omega
  have a3:R2.toList.drop (i*es+vs.length)=cs.drop (i*es)++cur.toList.drop ((i+1)*es+(cs.drop (i*es)).length):=by
   rw[hR2,hvl]
   simp only[List.append_assoc]
   exact List.drop_left' (by rw[List.length_take,Array.length_toList];omega)
  rw[hR3,a2,a3]
  simp only[List.append_assoc]
 ·rw[List.length_drop,Array.length_toList,hdl]
  omega
theorem SL (w:World) {t ty e:TypeId} {inf:TypeInfo} {zv:Value} (hu:P.underlying t=some (.slice e)) (hi:P.info? e=some inf) (hz:inf.zero=some zv) (hzs:zv.cells.size=inf.size) (g o m cap:Nat) (hm:0<m) (cur:Array Value) (t':TypeId)
 (hg:w.heap[g]?=some (.cells cur t' (0,0))) (hfit:o+m*inf.size≤cur.size) (h1:∀v∈(Builtin.zeroCells zv.cells m).toList,v.oneCell'=true):
 (Builtin.clear_ #[t] ty #[.slice (some ⟨g,o,none⟩) m cap]).run P w=.ok (.tuple #[]) (w.setRow g (cur.toList.take o++(Builtin.zeroCells zv.cells m).toList++cur.toList.drop (o+m*inf.size)).toArray):=by
 have hl:(Builtin.zeroCells zv.cells m).toList.length=m*inf.size:=by rw[Array.length_toList,size_zeroCells,hzs]
 have hst:=run_storeCells_at P g o t' (Builtin.zeroCells zv.cells m).toList 0 cur w hg (by rw[hl];simpa using hfit) h1
 obtain⟨m,rfl⟩:∃m',m=m'+1:=⟨m-1,by omega⟩
 simp only[Nat.add_zero,hl]at hst
 simp[Builtin.clear_,run_underlying hu,Dc hi hz,hst]
theorem Ae2 (hT:NZ P st t es bytes zv za) (hF:AaF P f st es) (b n c i j:Nat) (cur:Array Value) (t1:TypeId) (w:World) (hij:i<j) (hj:j≤n) (hnc:n≤c) (hc63:c≤9223372036854775807)
 (hb:w.heap[b]?=some (.cells cur t1 (0,0))) (hcur:c*es=cur.size) (h1c:∀v∈cur.toList.take (n*es),v.oneCell'=true):
 Calls P f #[.slice (some ⟨b,0,none⟩) n c,.int .i64 i,.int .i64 j] w fun e w'=>
  e=.returned (.slice (some ⟨b,0,none⟩) (i+(n-j)) c)∧Below b w w'∧(∀ k,k≠b→w'.heap[k]?=w.heap[k]?)∧
  ∃rest:List Value,w'.heap[b]?=some (.cells ((cur.toList.take (n*es)).take (i*es)++(cur.toList.take (n*es)).drop (j*es)++rest).toArray t1 (0,0))∧rest.length=(c-(i+(n-j)))*es:=by
 obtain⟨i0,hi0,hz0,hzs,hzb⟩:=info_parts hT.inf
 have hu:=hT.hu
 have hp:=hT.pos
 have m1:i*es+(j-i)*es=j*es:=Ip (by omega)
 have m2:j*es+(n-j)*es=n*es:=Ip (by omega)
 have m3:n*es+(c-n)*es=c*es:=Ip (by omega)
 have m4:i*es+(n-j)*es=(i+(n-j))*es:=Ip rfl
 have m5:(i+(n-j))*es+(c-(i+(n-j)))*es=c*es:=Ip (by omega)
 have m6:(i+(n-j))*es+(j-i)*es=n*es:=Ip (by omega)
 obtain⟨cs,hcs⟩:∃cs,cs=cur.toList.take (n*es):=⟨_,rfl⟩
 rw[← hcs]at h1c ⊢
 have hcl:cs.length=n*es:=by rw[hcs];simp;omega
 have hdl:(cs.drop (j*es)).length=(n-j)*es:=by rw[List.length_drop];omega
 obtain⟨R2,hR2⟩:∃R2:Array Value,R2=(cur.toList.take (i*es)++cs.drop (j*es)++cur.toList.drop (i*es+(cs.drop (j*es)).length)).toArray:=⟨_,rfl⟩
 have Ae1:R2.size=c*es:=by rw[hR2];simp;omega
 have AiR:zv.cells.size=i0.size:=by rw[hT.zs,hzs]
 have h1z:∀v∈(Builtin.zeroCells zv.cells (j-i)).toList,v.oneCell'=true:=fun v hv=>hT.z1 v (L9 (by rw[hT.zs];exact hp) hv)
 obtain⟨A,hA,hsrc⟩:∃A:Addr,(if c=j then some (⟨b,0,none⟩:Addr)else some ⟨b,j*es,none⟩)=some A∧(∀ (q:Nat) (u:Value),(cs.drop (j*es))[q]?=some u→w.drew.cell? (A.add q)=some u):=by
  by_cases h:c=j
  ·refine⟨⟨b,0,none⟩,by simp[h],fun q u hu=>?_⟩
   have h0:(cs.drop (j*es)).length=0:=by rw[hdl,show n-j=0 by omega,Nat.zero_mul]
   rw[List.length_eq_zero_iff.1 h0]at hu
   simp at hu
  ·refine⟨⟨b,j*es,none⟩,by simp[h],fun q u hu=>?_⟩
   show w.cell? _=_
   rw[Addr.add_lit,cell_of hb]
   rw[List.getElem?_drop,hcs,List.getElem?_take]at hu
   split at hu
   ·simpa using hu
   ·cases hu
 have hap:∀ty,(Builtin.append_ #[st,st] ty #[.slice (some ⟨b,0,none⟩) i c,.slice (some A) (n-j) (c-j)]).run P w.drew=.ok (.slice (some ⟨b,0,none⟩) (i+(n-j)) c) (w.drew.setRow b R2):=fun ty=>by
  have:=run_append_room' (P:=P) (ty:=ty) (w:=w.drew) hu hi0 b i c cur t1 hb A (n-j) (c-j) (cs.drop (j*es)) (by rw[hzs,hdl]) hsrc (fun v hv=>h1c v (List.mem_of_mem_drop hv)) (by omega) (by rw[hzs,hdl];omega)
  rw[hzs,←hR2]at this
  exact this
 have hB1:(w.drew.setRow b R2).heap[b]?=some (.cells R2 t1 (0,0)):=setRow_heap _ _ _ _ _ _ (show (w.drew).heap[b]?=_ from hb)
 obtain⟨R3,hR3⟩:∃R3:Array Value,R3=(R2.toList.take ((i+(n-j))*es)++(Builtin.zeroCells zv.cells (j-i)).toList++R2.toList.drop ((i+(n-j))*es+(j-i)*i0.size)).toArray:=⟨_,rfl⟩
 have AgN:∀ty,(Builtin.clear_ #[st] ty #[.slice (some ⟨b,(i+(n-j))*es,none⟩) (n-(i+(n-j))) (c-(i+(n-j)))]).run P (w.drew.setRow b R2)=.ok (.tuple #[]) ((w.drew.setRow b R2).setRow b R3):=fun ty=>by
  rw[show n-(i+(n-j))=j-i by omega,hR3]
  exact SL (P:=P) _ hu hi0 hz0 AiR b _ (j-i) _ (by omega) R2 t1 hB1 (by rw[hzs];omega) h1z
 refine(hF.walk b n c i j A w _ _ hij hj hnc hc63 hA hap AgN).mono ?_
 rintro e w' ⟨rfl,rfl⟩
 refine⟨rfl,⟨rfl,rfl,rfl,?_,fun k hk=>?_⟩,fun k hk=>?_,(Builtin.zeroCells zv.cells (j-i)).toList++R2.toList.drop ((i+(n-j))*es+(j-i)*i0.size),?_,?_⟩
 ·have h1:∀(W:World) (g:Nat) (r:Array Value),(W.setRow g r).heap.size=W.heap.size:=fun W g r=>by simp
  rw[h1,h1]
  exact Nat.le_refl _
 ·exact(setRow_other _ _ _ _ (by omega)).trans (setRow_other _ _ _ _ (by omega))
 ·exact(setRow_other _ _ _ _ hk).trans (setRow_other _ _ _ _ hk)
 ·rw[setRow_heap _ _ _ _ _ _ hB1]
  have a1:cur.toList.take (i*es)=cs.take (i*es):=by rw[hcs,List.take_take];congr 1;omega
  have a2:R2.toList.take ((i+(n-j))*es)=cs.take (i*es)++cs.drop (j*es):=by
   rw[hR2,a1]
   exact List.take_left' (by rw[List.length_append,List.length_take,hdl];omega)
  rw[hR3,a2]
  simp only[List.append_assoc]
 ·rw[List.length_append,List.length_drop,Array.length_toList,Array.length_toList,size_zeroCells,Ae1,AiR,hzs]
  omega
theorem Adx {w:World} {Z:BJ} {φ:Eu} {ctr:Nat} {a b c:AV} {vs:Array Value} (h:DT w Z φ ctr [a,b,c] vs):∃v0 v1 v2,vs=#[v0,v1,v2]∧Rep w Z φ ctr a v0∧Rep w Z φ ctr b v1∧Rep w Z φ ctr c v2:=by
 obtain⟨hl,ha⟩:=h
 obtain⟨v0,h0,r0⟩:=ha 0 _ rfl
 obtain⟨v1,h1,r1⟩:=ha 1 _ rfl
 obtain⟨v2,h2,r2⟩:=ha 2 _ rfl
 refine⟨v0,v1,v2,?_,r0,r1,r2⟩
 apply Array.ext_getElem?
 intro i
 match i with
 |0=>exact h0
 |1=>exact h1
 |2=>exact h2
 |i+3=>rw[Array.getElem?_eq_none (by rw[← hl];simp),Array.getElem?_eq_none (by simp)]
def Fe (es bytes:Nat):List AV→Ap→Option (AA×Ap)
 |[a,.int .i64 z,.sl true [x]],s=>if x.cells.length=es then match a with
  | .sl false []=>if z=0∧bytes≤2 ^ 46 then some (.ok (.own s.σ.length s.ctr 0 1),push s (.arr s.ctr es true true [x]))else none
  | .own o g 0 n=>match nth s.σ o with
    |some (.arr g' es' nn cl elems)=>
     if nn=false then
      if g=g'∧n=0∧z=0∧bytes≤2 ^ 46 then some (.ok (.own s.σ.length s.ctr 0 1),push s (.arr s.ctr es true true [x]))else none
     else if g=g'∧es'=es∧0≤z∧z.toNat≤n∧n≤elems.length∧(n+1)*bytes≤2 ^ 46 then
      some (.ok (.own o s.ctr 0 (n+1)),⟨s.σ.set o (.arr s.ctr es true cl ((elems.take n).take z.toNat++[x]++(elems.take n).drop z.toNat)),s.ctr+1⟩)
     else none
    |_=>none
  |_=>none
  else none
 |_,_=>none
set_option maxHeartbeats 1000000 in
theorem Qo (hT:NZ P st t es bytes zv za) (hF:Yu P f st it es ov):AL P fun f' args s=>if f'=f then Fe es bytes args s else none:=by
 intro f0 args s out s' h
 replace h:(if f0=f then Fe es bytes args s else none)=some (out,s'):=h
 rcases Decidable.em (f0=f)with hf|hf
 case inr=>rw[if_neg hf]at h;cases h
 rw[if_pos hf]at h
 subst hf
 unfold Fe at h
 split at h
 case h_2=>cases h
 rename_i a z y
 split at h
 case isFalse=>cases h
 rename_i hys
 refine fun w0 B Z φ w vs hI hargs=>.inl ⟨hF.fn,?_⟩
 obtain⟨v0,v1,v2,rfl,r0,r1,r2⟩:=Adx hargs
 cases r1
 obtain⟨i0,hi0,hz1,hzs,hzb⟩:=info_parts hT.inf
 have hu:=hT.hu
 have hes:=hT.pos
 have r2':=r2
 cases r2 with
 |sl _ nv vb voff Y3 ves fv hnv Alg Amh vsz vhc vhr=>
 obtain rfl:nv=1:=hnv
 obtain rfl:es=ves:=by rw[← hys];exact vsz 0 y rfl
 have hsub:elemsOf s es (.sl true [y])=some ([y],true):=rfl
 have hall:Bo es [y]:=fun q hq=>by simp at hq;rw[hq];exact hys
 obtain⟨vl,hvl⟩:∃vl:List Value,vl=(List.range es).map (fv 0):=⟨_,rfl⟩
 have Z8:vl.length=es:=by rw[hvl];simp
 have hvg:∀j,j<es→∃c,y.cells[j]?=some c∧vl[j]?=some (fv 0 j)∧w.cell? ⟨vb,voff+j,none⟩=some (fv 0 j)∧Rep w Z φ s.ctr c (fv 0 j)∧c.one=true∧c.closed=true∧Z vb (voff+j):=by
  intro j hj
  obtain⟨c,hc⟩:∃c,y.cells[j]?=some c:=⟨_,List.getElem?_eq_getElem (by omega)⟩
  obtain⟨k1,k2,k3,k4⟩:=vhc 0 y j c rfl hc
  simp only[Nat.zero_mul,Nat.add_zero]at k1 k2
  refine⟨c,hc,by rw[hvl,List.getElem?_map,List.getElem?_range hj];rfl,k2,vhr 0 y j c rfl hc,k4,k3,k1⟩
 have Afz:∀(j:Nat) (v:Value),vl[j]?=some v→w.cell? ((⟨vb,voff,none⟩:Addr).add j)=some v:=by
  intro j v hj
  have hlt:=(List.getElem?_eq_some_iff.1 hj).1
  obtain⟨c,_,k2,k3,_⟩:=hvg j (by omega)
  rw[hj]at k2
  cases k2
  rw[Addr.add_lit]
  exact k3
 have q1:Bh w Z φ s.ctr (flat [y]) vl.toArray:=by
  refine⟨by simp[flat,Z8,hys],fun i c hi=>?_⟩
  have hi':y.cells[i]?=some c:=by simpa[flat]using hi
  have hlt:=(List.getElem?_eq_some_iff.1 hi').1
  obtain⟨c',k1,k2,k3,k4,k5,_⟩:=hvg i (by omega)
  rw[hi']at k1
  cases k1
  exact⟨fv 0 i,by simpa using k2,k4,k5⟩
 have hyc:y.closed=true:=by
  have hone:∀(j:Nat) (c:AV),y.cells[j]?=some c→c.closed=true:=fun j c hj=>(vhc 0 y j c rfl hj).2.2.1
  cases y with
  |agg cs=>simp only[AV.closed];exact CP hone
  |_=>exact hone 0 _ rfl
 have hblk:∀b,(∀ i,¬Z b i)→vb≠b:=by
  rintro b hnz rfl
  obtain⟨_,_,_,_,_,_,_,k⟩:=hvg 0 hes
  exact hnz _ k
 have AiS:bytes≤2 ^ 46→v0=.slice none 0 0→Calls P f0 #[v0,.int .i64 0,.slice (some ⟨vb,voff,none⟩) 1 Y3] w fun e w'=>∃Z' φ',Inv w0 B (push s (.arr s.ctr es true true [y])) Z' φ' w'∧Later B w Z φ s.ctr w' Z' φ' (push s (.arr s.ctr es true true [y])).ctr∧JJ w' Z' φ' (push s (.arr s.ctr es true true [y])).ctr (.ok (.own s.σ.length s.ctr 0 1)) e:=by
  rintro hby rfl
  have hev:D8 es bytes s (.sl false []) [y] true=some (.own s.σ.length s.ctr 0 1,push s (.arr s.ctr es true true [y])):=by
   simp only[D8]
   rw[if_pos ⟨hall,by unfold roomy;exact Nat.le_trans (by simpa using hby) (by decide)⟩]
   rfl
  obtain⟨x,w',Z',φ',hrun,k1,k2,k3⟩:=MP (ty:=0) hI hu hT.zt hi0 hzb hT.b0 (.Fv) r2' hsub hev
  obtain⟨_,hrun'⟩:∃u:Unit,∀ty,(Builtin.append_ #[st,st] ty #[.slice none 0 0,.slice (some ⟨vb,voff,none⟩) 1 Y3]).run P w=.ok x w':=⟨(),fun ty=>hrun⟩
  refine(hF.fin none 0 0 Y3 ⟨vb,voff,none⟩ w w' x (fun _=>rfl) (Nat.le_refl _) hrun').mono ?_
  rintro e w1 ⟨rfl,rfl⟩
  exact⟨Z',φ',k1,k3,x,rfl,k2⟩
 split at h
 ·split at h
  case isFalse=>cases h
  rename_i hc
  obtain⟨rfl,hby⟩:=hc
  simp only[Option.some.injEq,Prod.mk.injEq]at h
  obtain⟨rfl,rfl⟩:=h
  cases r0
  exact AiS hby rfl
 rotate_left
 ·cases h
 rename_i o g n
 split at h
 case h_2=>cases h
 rename_i g' es' nn cl elems ho
 split at h
 ·rename_i hnn
  subst hnn
  split at h
  case isFalse=>cases h
  rename_i hc
  obtain⟨rfl,rfl,rfl,hby⟩:=hc
  simp only[Option.some.injEq,Prod.mk.injEq]at h
  obtain⟨rfl,rfl⟩:=h
  rw[AX]at ho
  obtain⟨_,_,h3⟩:=hI.objs o _ ho
  cases r0 with
  |CG=>exact AiS hby rfl
  |DR _ _ a0 hg hφ=>rw[hφ]at h3;cases h3.1
  |own _ _ _ _ b es' size cap ad hg hφ hcap ha' hs=>rw[hφ]at h3;cases h3.1
 split at h
 case isFalse=>cases h
 rename_i hnn hc
 obtain⟨rfl,rfl,hz0,hzn,hlen,hroom⟩:=hc
 simp only[Option.some.injEq,Prod.mk.injEq]at h
 obtain⟨rfl,rfl⟩:=h
 obtain⟨z,rfl⟩:∃z':Nat,z=(z':Int):=⟨z.toNat,by omega⟩
 simp only[Int.toNat_natCast]at hzn ⊢
 have ho':=ho
 rw[AX]at ho
 obtain⟨og,_,h3⟩:=hI.objs o _ ho
 by_cases AkB:z=n
 ·subst AkB
  have hev:D8 es' bytes s (.own o g 0 z) [y] true=some (.own o s.ctr 0 (z+1),⟨s.σ.set o (.arr s.ctr es' true cl ((elems.take z).take z++[y]++(elems.take z).drop z)),s.ctr+1⟩):=by
   simp only[D8,ho']
   rw[if_pos ⟨trivial,trivial,hlen,hall,by unfold roomy;exact Nat.le_trans (by simpa using hroom) (by decide)⟩]
   have e1:(nn||!([y]:List AV).isEmpty)=true:=by simp
   have e2:(elems.take z).take z++[y]++(elems.take z).drop z=elems.take z++[y]:=by
        rw[List.take_take,Nat.min_self,List.drop_eq_nil_of_le (by rw[List.length_take];omega),List.append_nil]
   rw[e1,e2,Bool.and_true]
   rfl
  obtain⟨x,w',Z',φ',hrun,k1,k2,k3⟩:=MP (ty:=0) hI hu hT.zt hi0 hzb hT.b0 r0 r2' hsub hev
  have fin:∀(base:Option Addr) (c:Nat),v0=.slice base z c→(base=none→z=0)→z≤c→Calls P f0 #[v0,.int .i64 z,.slice (some ⟨vb,voff,none⟩) 1 Y3] w fun e w'=>∃Z' φ',Inv w0 B ⟨s.σ.set o (.arr s.ctr es' true cl ((elems.take z).take z++[y]++(elems.take z).drop z)),s.ctr+1⟩ Z' φ' w'∧Later B w Z φ s.ctr w' Z' φ' (s.ctr+1)∧JJ w' Z' φ' (s.ctr+1) (.ok (.own o s.ctr 0 (z+1))) e:=by
   rintro base c rfl hb hzc
   refine(hF.fin base z c Y3 ⟨vb,voff,none⟩ w w' x hb hzc (fun ty=>hrun)).mono ?_
   rintro e w1 ⟨rfl,rfl⟩
   exact⟨Z',φ',k1,k3,x,rfl,k2⟩
  cases r0 with
  |CG=>exact fin none 0 rfl (fun _=>rfl) (Nat.le_refl _)
  |DR _ _ a0=>exact fin (some a0) 0 rfl (fun h=>by cases h) (Nat.le_refl _)
  |own _ _ _ _ b es' size cap ad hg hφ hcap ha' hs=>exact fin (some ad) cap rfl (fun h=>by cases h) hcap
 ·have hlt:z<n:=by omega
  cases r0 with
  |CG=>omega
  |DR=>omega
  |own _ _ _ _ b es'' size cap ad hg hφ hcap ha' hs=>
  obtain⟨rfl,hsize,hcm⟩:=ha' (.inr rfl)
  rw[hφ]at h3
  obtain⟨rfl,he,hB,hnz,hfit,cur,ct,hw,hcs,hH⟩:=h3
  subst he
  simp only[Nat.zero_mul,Nat.zero_add]at*
  have hbne:=hblk b hnz
  have AfA:n*es''≤cur.size:=by rw[hcs];exact Nat.le_trans (Nat.mul_le_mul_right _ hlen) hfit
  have m1:z*es''+(n-z)*es''=n*es'':=Ip (by omega)
  have m2:n*es''+1*es''=(n+1)*es'':=Ip rfl
  obtain⟨p1,p2⟩:=hH.OT hes hlen (by rw[hcs];exact hfit)
  have YV:=Oy hH
  have hAl:((elems.take n).take z).length=z:=by rw[List.length_take,List.length_take];omega
  have hpA:Bo es'' ((elems.take n).take z):=fun y hy=>p2 y (List.mem_of_mem_take hy)
  have hpB:Bo es'' ((elems.take n).drop z):=fun y hy=>p2 y (List.mem_of_mem_drop hy)
  have hfl:(flat ((elems.take n).take z)).length=z*es'':=by rw[flat_length hpA,hAl]
  have p1':Bh w Z φ s.ctr (flat ((elems.take n).take z)++flat ((elems.take n).drop z)) (cur.toList.take (n*es'')).toArray:=by
   rw[← Ef,List.take_append_drop];exact p1
  obtain⟨s1,s2⟩:=p1'.split
  rw[hfl]at s1 s2
  have hHn:Holds w Z φ s.ctr ((cur.toList.take (n*es'')).take (z*es'')++vl++(cur.toList.take (n*es'')).drop (z*es'')).toArray es'' cl ((elems.take n).take z++[y]++(elems.take n).drop z):=by
   refine Bh.holds (fun q hq=>?_) (by rw[Ef,Ef];exact(s1.append q1).append s2) (fun hc q hq=>?_)
   ·rcases List.mem_append.1 hq with hq|hq
    ·rcases List.mem_append.1 hq with hq|hq
     ·exact hpA q hq
     ·exact hall q hq
    ·exact hpB q hq
   ·rcases List.mem_append.1 hq with hq|hq
    ·rcases List.mem_append.1 hq with hq|hq
     ·exact YV hc q (List.mem_of_mem_take (List.mem_of_mem_take hq))
     ·simp at hq;rw[hq];exact hyc
    ·exact YV hc q (List.mem_of_mem_take (List.mem_of_mem_drop hq))
  have hlen':((elems.take n).take z++[y]++(elems.take n).drop z).length=n+1:=by
   simp only[List.length_append,List.length_take,List.length_drop,List.length_singleton];omega
  have o1:∀v∈cur.toList.take (n*es''),v.oneCell'=true:=Ig p1
  have o2':∀v∈vl,v.oneCell'=true:=Ig q1
  have hext:∀rest:List Value,Holds w Z φ s.ctr ((cur.toList.take (n*es'')).take (z*es'')++vl++(cur.toList.take (n*es'')).drop (z*es'')++rest).toArray es'' cl ((elems.take n).take z++[y]++(elems.take n).drop z):=fun rest=>hHn.extend fun k hk=>by
   rw[List.getElem?_toArray,List.getElem?_append_left hk]
  have Ae3:((cur.toList.take (n*es'')).take (z*es'')++vl++(cur.toList.take (n*es'')).drop (z*es'')).length=(n+1)*es'':=by
   simp only[List.length_append,List.length_take,List.length_drop,Array.length_toList,Z8];omega
  by_cases hrm:n+1≤cap
  ·have m3:(n+1)*es''+(cap-(n+1))*es''=cap*es'':=Ip (by omega)
   refine(Adw hT hF b n cap z Y3 ⟨vb,voff,none⟩ cur vl ct w hlt hrm (by unfold maxLen at hcm;omega) hbne hw Afz (by omega) Z8 o1 o2').mono ?_
   rintro e w' ⟨rfl,hbel,hoth,rest,hw',hrest⟩
   obtain⟨φ',k1,k2,k3⟩:=Zi hI ho hes hφ hB hnz (hbel.mono (by omega)) hoth hw' (by
        rw[List.size_toArray,List.length_append,Ae3,hrest];omega) (hext rest) hsize (by rw[hlen'];exact hrm) hcm
   rw[hlen']at k2
   exact⟨Z,φ',k1,k3,_,rfl,k2⟩
  ·refine(Ae0 hT hF b n cap z Y3 ⟨vb,voff,none⟩ cur vl ct w hlt hcap (by omega) (by omega) hw Afz AfA Z8 o1 o2').mono ?_
   rintro e w' ⟨rfl,hbel,rest,hrest,hw'⟩
   have hge:=grownCap_ge w (n+1) cap t
   have m3:(n+1)*es''+(grownCap w (n+1) cap t-(n+1))*es''=grownCap w (n+1) cap t*es'':=Ip (by omega)
   have Ace:n+1≤70368744177664:=Nat.le_trans (Nat.le_mul_of_pos_right _ hT.b0) hroom
   obtain⟨φ',k1,k2,k3⟩:=Aaf hI ho hes (cap:=grownCap w (n+1) cap t) hbel hw' (hext rest) (by
        rw[List.size_toArray,List.length_append,Ae3,hrest];omega) (by rw[hlen'];exact hge) (grownCap_le_maxLen w _ _ _ (by unfold maxLen;omega))
   rw[hlen']at k2
   exact⟨Z,φ',k1,k3,_,rfl,k2⟩
def delSpec (es:Nat):List AV→Ap→Option (AA×Ap)
 |[.own o g 0 n,.int .i64 z,.int .i64 y],s=>match nth s.σ o with
  |some (.arr g' es' nn cl elems)=>
   if g=g'∧es'=es∧0≤z∧z<y∧y.toNat≤n∧n≤elems.length then
    some (.ok (.own o s.ctr 0 (z.toNat+(n-y.toNat))),⟨s.σ.set o (.arr s.ctr es true cl ((elems.take n).take z.toNat++(elems.take n).drop y.toNat)),s.ctr+1⟩)
   else none
  |_=>none
 |_,_=>none
set_option maxHeartbeats 1000000 in
theorem Qp (hT:NZ P st t es bytes zv za) (hF:AaF P f st es):AL P fun f' args s=>if f'=f then delSpec es args s else none:=by
 intro f0 args s out s' h
 replace h:(if f0=f then delSpec es args s else none)=some (out,s'):=h
 rcases Decidable.em (f0=f)with hf|hf
 case inr=>rw[if_neg hf]at h;cases h
 rw[if_pos hf]at h
 subst hf
 unfold delSpec at h
 split at h
 case h_2=>cases h
 rename_i o g n z y
 split at h
 case h_2=>cases h
 rename_i g' es' nn cl elems ho
 split at h
 case isFalse=>cases h
 rename_i hc
 obtain⟨rfl,rfl,hz0,hzy,hyn,hlen⟩:=hc
 simp only[Option.some.injEq,Prod.mk.injEq]at h
 obtain⟨rfl,rfl⟩:=h
 obtain⟨z,rfl⟩:∃z':Nat,z=(z':Int):=⟨z.toNat,by omega⟩
 obtain⟨y,rfl⟩:∃y':Nat,y=(y':Int):=⟨y.toNat,by omega⟩
 simp only[Int.toNat_natCast]at hyn ⊢
 refine fun w0 B Z φ w vs hI hargs=>.inl ⟨hF.fn,?_⟩
 obtain⟨v0,v1,v2,rfl,r0,r1,r2⟩:=Adx hargs
 cases r1
 cases r2
 rw[AX]at ho
 obtain⟨og,hes,h3⟩:=hI.objs o _ ho
 cases r0 with
 |CG=>omega
 |DR=>omega
 |own _ _ _ _ b es'' size cap ad hg hφ hcap ha' hs=>
 obtain⟨rfl,hsize,hcm⟩:=ha' (.inr rfl)
 rw[hφ]at h3
 obtain⟨rfl,he,hB,hnz,hfit,cur,ct,hw,hcs,hH⟩:=h3
 subst he
 simp only[Nat.zero_mul,Nat.zero_add]at*
 have AfA:n*es''≤cur.size:=by rw[hcs];exact Nat.le_trans (Nat.mul_le_mul_right _ hlen) hfit
 have m1:z*es''+(n-z)*es''=n*es'':=Ip (by omega)
 have m2:y*es''+(n-y)*es''=n*es'':=Ip (by omega)
 have m3:z*es''+(n-y)*es''=(z+(n-y))*es'':=Ip rfl
 have m4:(z+(n-y))*es''+(cap-(z+(n-y)))*es''=cap*es'':=Ip (by omega)
 obtain⟨p1,p2⟩:=hH.OT hes hlen (by rw[hcs];exact hfit)
 have YV:=Oy hH
 have hAl:((elems.take n).take z).length=z:=by rw[List.length_take,List.length_take];omega
 have hAy:((elems.take n).take y).length=y:=by rw[List.length_take,List.length_take];omega
 have hpA:Bo es'' ((elems.take n).take z):=fun q hq=>p2 q (List.mem_of_mem_take hq)
 have hpY:Bo es'' ((elems.take n).take y):=fun q hq=>p2 q (List.mem_of_mem_take hq)
 have hpB:Bo es'' ((elems.take n).drop y):=fun q hq=>p2 q (List.mem_of_mem_drop hq)
 have hfl:(flat ((elems.take n).take z)).length=z*es'':=by rw[flat_length hpA,hAl]
 have hfy:(flat ((elems.take n).take y)).length=y*es'':=by rw[flat_length hpY,hAy]
 have p1':Bh w Z φ s.ctr (flat ((elems.take n).take z)++flat ((elems.take n).drop z)) (cur.toList.take (n*es'')).toArray:=by
  rw[← Ef,List.take_append_drop];exact p1
 have p1y:Bh w Z φ s.ctr (flat ((elems.take n).take y)++flat ((elems.take n).drop y)) (cur.toList.take (n*es'')).toArray:=by
  rw[← Ef,List.take_append_drop];exact p1
 have s1:=p1'.split.1
 have s2:=p1y.split.2
 rw[hfl]at s1
 rw[hfy]at s2
 have hHn:Holds w Z φ s.ctr ((cur.toList.take (n*es'')).take (z*es'')++(cur.toList.take (n*es'')).drop (y*es'')).toArray es'' cl ((elems.take n).take z++(elems.take n).drop y):=by
  refine Bh.holds (fun q hq=>?_) (by rw[Ef];exact s1.append s2) (fun hc q hq=>?_)
  ·rcases List.mem_append.1 hq with hq|hq
   ·exact hpA q hq
   ·exact hpB q hq
  ·rcases List.mem_append.1 hq with hq|hq
   ·exact YV hc q (List.mem_of_mem_take (List.mem_of_mem_take hq))
   ·exact YV hc q (List.mem_of_mem_take (List.mem_of_mem_drop hq))
 have hlen':((elems.take n).take z++(elems.take n).drop y).length=z+(n-y):=by
  simp only[List.length_append,List.length_take,List.length_drop];omega
 have Ae3:((cur.toList.take (n*es'')).take (z*es'')++(cur.toList.take (n*es'')).drop (y*es'')).length=(z+(n-y))*es'':=by
  simp only[List.length_append,List.length_take,List.length_drop,Array.length_toList];omega
 refine(Ae2 hT hF b n cap z y cur ct w (by omega) hyn hcap (by unfold maxLen at hcm;omega) hw (by omega) (Ig p1)).mono ?_
 rintro e w' ⟨rfl,hbel,hoth,rest,hw',hrest⟩
 obtain⟨φ',k1,k2,k3⟩:=Zi hI ho hes hφ hB hnz (hbel.mono (by omega)) hoth hw' (by
  rw[List.size_toArray,List.length_append,Ae3,hrest];omega) (hHn.extend fun k hk=>by
   rw[List.getElem?_toArray,List.getElem?_append_left hk]) hsize (by rw[hlen'];omega) hcm
 rw[hlen']at k2
 exact⟨Z,φ',k1,k3,_,rfl,k2⟩
end
section
open Go.RowKit Go.Lib
theorem Fb {P:Program} {ops:Array Oper} {o:Oper} {a:Act} {w:World} {K:Act→World→Prop} {Q:Exit→Act→World→Prop} {E:Prop}
 (hg:o.guard=none) (d x:Operand) (dT sT:TypeId) (hop:o.op=Op.call {callee:=Callee.builtin Builtin.append,args:=#[d,x],argTypes:=#[dT,sT]})
 (v u:Value) (hd:a.eval d=v) (hx:a.eval x=u) {v':Value} {w':World} (hr:(Builtin.append_ #[dT,sT] o.type #[v,u]).run P w=.ok v' w') (hK:K (a.put o.dst v') w'):
 if Region.wanted o (yielded ops a.tmps)=true then Oper.wp P o a w K Q else E:=by
 have hw:Region.wanted o (yielded ops a.tmps)=true:=by simp[Region.wanted,hg]
 rw[if_pos hw]
 unfold Oper.wp
 simp[execOp,hop,resolve,invoke,builtin,hd,hx,hr,Result.andThen]
 exact hK
theorem SX {P:Program} (w:World) {o:Oper} {a:Act} {K:Act→World→Prop} {Q:Exit→Act→World→Prop} (d:Operand) (t:TypeId)
 (ho:o.op=.call {callee:=.builtin .clear,args:=#[d],argTypes:=#[t]}) (v:Value) (hd:a.eval d=v) {v':Value} {w':World}
 (hr:(Builtin.clear_ #[t] o.type #[v]).run P w=.ok v' w') (h:K (a.put o.dst v') w'):o.wp P a w K Q:=by
 unfold Oper.wp execOp
 simp only[ho,resolve,invoke,builtin,Sem.run_bind,Sem.run_pure,Result.andThen_ok,List.map_toArray,List.map_cons,List.map_nil,hd,hr]
 exact h
theorem EI {P:Program} (w:World) {ops:Array Oper} {rest:List Oper} {o:Oper} {a:Act} {Q:Exit→Act→World→Prop} (hgd:o.guard=none) (d:Operand) (t:TypeId)
 (ho:o.op=.call {callee:=.builtin .clear,args:=#[d],argTypes:=#[t]}) (v:Value) (hd:a.eval d=v) {v':Value} {w':World}
 (hr:(Builtin.clear_ #[t] o.type #[v]).run P w=.ok v' w') (h:wpList P ops Q rest (a.put o.dst v') w'):wpList P ops Q (o::rest) a w:=
 wpList_plain hgd fun _ hK=>SX w d t ho v hd hr (hK _ _ h)
end
section
set_option linter.unusedSimpArgs false
open Go.RowKit Go.Lib
theorem Adv:NZ Tryz.prog 27 55 3 56 (.agg #[.int .i64 0,.slice none 0 0,.slice none 0 0]) (.agg [.int .i64 0,.sl false [],.sl false []]) where
 pos:=by omega
 b0:=by omega
 hu:=Tryz.underlying27
 inf:=by kernel_rfl
 zt:=by kernel_rfl
 zs:=rfl
 z1:=by decide
set_option maxHeartbeats 4000000 in
set_option maxRecDepth 1000000 in
theorem AiO:Yu Tryz.prog 128 27 3 3 148 where
 fn:=⟨_,Tryz.func128,rfl,by decide⟩
 iu:=Tryz.underlying3
 fin:=by
  intro base n c vc va w w1 x hnil hnc hrun
  have hu:=Tryz.underlying27
  have hz1:¬((1:Int)=0):=by omega
  cases base with
  |none=>
   have h0:=hnil rfl
   subst h0
   go_enter Tryz.func128,Tryz.ntmps128
   go_wp2_with (at_builtin;refine Lib.wpList_append_run _ rfl _ _ _ _ rfl _ _ rfl rfl _ _ (hrun _) ?_)
   all_goals (go_ret;exact⟨rfl,rfl⟩)
  |some a=>
   obtain⟨ab,ao,asp⟩:=a
   go_enter Tryz.func128,Tryz.ntmps128
   go_wp2_with (at_builtin;refine Lib.wpList_append_run _ rfl _ _ _ _ rfl _ _ rfl rfl _ _ (hrun _) ?_)
   all_goals (go_ret;exact⟨rfl,rfl⟩)
 grow:=by
  intro b n c i vc G va w w1 w2 w3 hi hnc hroom hGn hG63 Ace hrz hcpA hcpB
  have hz1:¬((1:Int)=0):=by omega
  have hz2:¬((i:Int)=(n:Int)):=by omega
  have hz3:(c:Int)<(n:Int)+1:=by omega
  have hGi:¬(G=i):=by omega
  have Agk:¬(G=i+1):=by omega
  have hci:¬(c=i):=by omega
  have hw1:IntKind.i64.wrap ((i:Int)+1)=(i:Int)+1:=by rw[IntKind.wrap_i64];omega
  have hw2:IntKind.i64.wrap ((n:Int)+1)=(n:Int)+1:=by rw[IntKind.wrap_i64];omega
  have hw3:IntKind.i64.wrap ((n:Int)+1-(i:Int))=(n:Int)+1-(i:Int):=by rw[IntKind.wrap_i64];omega
  have hb1:(0:Int)≤(i:Int)+1:=by omega
  have hin:i≤n:=by omega
  have htn:((i:Int)+1).toNat=i+1:=by omega
  have hb3:(i:Int)≤(n:Int):=by omega
  have hb4:(i:Int)+1≤(n:Int)+1:=by omega
  have hic:i≤c:=by omega
  go_enter Tryz.func128,Tryz.ntmps128
  go_wp2_with (first
   |(at_builtin;refine Lib.wpList_append_run _ rfl _ _ _ _ rfl _ _ rfl rfl _ _ (hrz _) ?_)
   |(refine wpList_copy_runI _ rfl _ _ 27 27 rfl _ _ rfl rfl (hcpA _ _) ?_))
  go_region_law (refine step_copy_runI rfl _ _ 27 27 rfl (.slice (some ⟨w.heap.size,(i+1)*3,none⟩) (n+1-(i+1)) (G-(i+1))) (.slice (some ⟨b,i*3,none⟩) (n-i) (c-i)) (by simp[Act.eval,Act.put]) (by simp[Act.eval,Act.put]) (hcpB _ _ _) ?_)
  go_wp2
  go_ret
  exact⟨rfl,rfl⟩
 apart:=by
  intro b o vc lb cb va cur v t1 w hne hb hv hpos
  obtain⟨i0,hi0,hz0,hzs,hzb⟩:=info_parts Adv.inf
  obtain⟨tA,kA,k1,k2⟩:=N7 hv
  rw[run_callFunc_extern Tryz.func148 (by kernel_rfl) (by kernel_rfl) (by kernel_rfl) (e:=Extern.SlicesOverlaps.overlaps #[27,27] #[4]) (by kernel_rfl),
   Fh w 27 4 55 Tryz.underlying27 3 (fun w=>by simp[sizeOf,typeInfo,hi0,hzs]) va ⟨b,o,none⟩ 1 vc lb cb hne tA t1 kA cur.size k1 (by simp[World.shape?,hb]) k2 (by simp[World.frozen?,hb]) (by simp[World.frozen?,hb])]
  rfl
 shift:=by
  intro b n c i vc va w w2 w3 hi hroom hc63 hov hcpA hcpB
  have hu:=Tryz.underlying27
  have hz1:¬((1:Int)=0):=by omega
  have hz2:¬((i:Int)=(n:Int)):=by omega
  have hz3:¬((c:Int)<(n:Int)+1):=by omega
  have hw1:IntKind.i64.wrap ((i:Int)+1)=(i:Int)+1:=by rw[IntKind.wrap_i64];omega
  have hw2:IntKind.i64.wrap ((n:Int)+1)=(n:Int)+1:=by rw[IntKind.wrap_i64];omega
  have hb1:(0:Int)≤(i:Int)+1:=by omega
  have hb0:(0:Int)≤(n:Int)+1:=by omega
  have hin:i≤n:=by omega
  have htn:((i:Int)+1).toNat=i+1:=by omega
  have Agl:((n:Int)+1).toNat=n+1:=by omega
  have hb3:(i:Int)≤(n:Int)+1:=by omega
  have hb4:(i:Int)+1≤(n:Int)+1:=by omega
  have hb5:(n:Int)+1≤(c:Int):=by omega
  have hci:¬(c=i):=by omega
  have Agm:¬(c=i+1):=by omega
  have hic:i≤c:=by omega
  go_enter Tryz.func128,Tryz.ntmps128
  go_wp2_with (simp only[hov])
  go_region_law (refine step_copy_runI rfl _ _ 27 27 rfl (.slice (some ⟨b,(i+1)*3,none⟩) (n+1-(i+1)) (c-(i+1))) (.slice (some ⟨b,i*3,none⟩) (n+1-i) (c-i)) (by simp[Act.eval,Act.put]) (by simp[Act.eval,Act.put]) (hcpA _ _ _) ?_)
  go_wp2_with (refine wpList_copy_runI _ rfl _ _ 27 27 rfl _ _ rfl rfl (hcpB _ _) ?_)
  go_ret
  exact⟨rfl,rfl⟩
set_option maxHeartbeats 4000000 in
set_option maxRecDepth 1000000 in
theorem AiP:AaF Tryz.prog 129 27 3 where
 fn:=⟨_,Tryz.func129,rfl,by decide⟩
 walk:=by
  intro b n c i j A w w2 w3 hij hj hnc hc63 hA hap hcl
  have hu:=Tryz.underlying27
  have hic:i≤c:=by omega
  have hjc:j≤c:=by omega
  have Agn:¬(c=i+(n-j)):=by omega
  have hle1:i+(n-j)≤n:=by omega
  have hne:¬((i:Int)=(j:Int)):=by omega
  go_enter Tryz.func129,Tryz.ntmps129
  go_wp2_with fail
  go_region_law (refine Fb rfl _ _ 27 27 rfl (.slice (some ⟨b,0,none⟩) i c) (.slice (some A) (n-j) (c-j)) (by simp[Act.eval,Act.put]) (by simp[Act.eval,Act.put]) (hap _) ?_)
  go_wp2_with (refine EI _ rfl _ 27 rfl _ rfl (hcl _) ?_)
  go_ret
  exact⟨rfl,rfl⟩
abbrev Ado:=Fe 3 56
abbrev Adp:=delSpec 3
theorem AeO:AL Tryz.prog fun f' args s=>if f'=128 then Ado args s else none:=Qo Adv AiO
theorem AeP:AL Tryz.prog fun f' args s=>if f'=129 then Adp args s else none:=Qp Adv AiP
end
section
set_option linter.unusedSimpArgs false
open Go.RowKit Go.Lib
theorem Ac5:NZ Tryz.prog 28 57 5 64 (.agg #[.int .i64 0,.int .i64 0,.int .i64 0,.string ⟨#[]⟩,.slice none 0 0]) (.agg [.int .i64 0,.int .i64 0,.int .i64 0,.str [],.sl false []]) where
 pos:=by omega
 b0:=by omega
 hu:=Tryz.underlying28
 inf:=by kernel_rfl
 zt:=by kernel_rfl
 zs:=rfl
 z1:=by decide
set_option maxHeartbeats 4000000 in
set_option maxRecDepth 1000000 in
theorem Aiu:Yu Tryz.prog 135 28 3 5 161 where
 fn:=⟨_,Tryz.func135,rfl,by decide⟩
 iu:=Tryz.underlying3
 fin:=by
  intro base n c vc va w w1 x hnil hnc hrun
  have hu:=Tryz.underlying28
  have hz1:¬((1:Int)=0):=by omega
  cases base with
  |none=>
   have h0:=hnil rfl
   subst h0
   go_enter Tryz.func135,Tryz.ntmps135
   go_wp2_with (at_builtin;refine Lib.wpList_append_run _ rfl _ _ _ _ rfl _ _ rfl rfl _ _ (hrun _) ?_)
   all_goals (go_ret;exact⟨rfl,rfl⟩)
  |some a=>
   obtain⟨ab,ao,asp⟩:=a
   go_enter Tryz.func135,Tryz.ntmps135
   go_wp2_with (at_builtin;refine Lib.wpList_append_run _ rfl _ _ _ _ rfl _ _ rfl rfl _ _ (hrun _) ?_)
   all_goals (go_ret;exact⟨rfl,rfl⟩)
 grow:=by
  intro b n c i vc G va w w1 w2 w3 hi hnc hroom hGn hG63 Ace hrz hcpA hcpB
  have hz1:¬((1:Int)=0):=by omega
  have hz2:¬((i:Int)=(n:Int)):=by omega
  have hz3:(c:Int)<(n:Int)+1:=by omega
  have hGi:¬(G=i):=by omega
  have Agk:¬(G=i+1):=by omega
  have hci:¬(c=i):=by omega
  have hw1:IntKind.i64.wrap ((i:Int)+1)=(i:Int)+1:=by rw[IntKind.wrap_i64];omega
  have hw2:IntKind.i64.wrap ((n:Int)+1)=(n:Int)+1:=by rw[IntKind.wrap_i64];omega
  have hw3:IntKind.i64.wrap ((n:Int)+1-(i:Int))=(n:Int)+1-(i:Int):=by rw[IntKind.wrap_i64];omega
  have hb1:(0:Int)≤(i:Int)+1:=by omega
  have hin:i≤n:=by omega
  have htn:((i:Int)+1).toNat=i+1:=by omega
  have hb3:(i:Int)≤(n:Int):=by omega
  have hb4:(i:Int)+1≤(n:Int)+1:=by omega
  have hic:i≤c:=by omega
  go_enter Tryz.func135,Tryz.ntmps135
  go_wp2_with (first
   |(at_builtin;refine Lib.wpList_append_run _ rfl _ _ _ _ rfl _ _ rfl rfl _ _ (hrz _) ?_)
   |(refine wpList_copy_runI _ rfl _ _ 28 28 rfl _ _ rfl rfl (hcpA _ _) ?_))
  go_region_law (refine step_copy_runI rfl _ _ 28 28 rfl (.slice (some ⟨w.heap.size,(i+1)*5,none⟩) (n+1-(i+1)) (G-(i+1))) (.slice (some ⟨b,i*5,none⟩) (n-i) (c-i)) (by simp[Act.eval,Act.put]) (by simp[Act.eval,Act.put]) (hcpB _ _ _) ?_)
  go_wp2
  go_ret
  exact⟨rfl,rfl⟩
 apart:=by
  intro b o vc lb cb va cur v t1 w hne hb hv hpos
  obtain⟨i0,hi0,hz0,hzs,hzb⟩:=info_parts Ac5.inf
  obtain⟨tA,kA,k1,k2⟩:=N7 hv
  rw[run_callFunc_extern Tryz.func161 (by kernel_rfl) (by kernel_rfl) (by kernel_rfl) (e:=Extern.SlicesOverlaps.overlaps #[28,28] #[4]) (by kernel_rfl),
   Fh w 28 4 57 Tryz.underlying28 5 (fun w=>by simp[sizeOf,typeInfo,hi0,hzs]) va ⟨b,o,none⟩ 1 vc lb cb hne tA t1 kA cur.size k1 (by simp[World.shape?,hb]) k2 (by simp[World.frozen?,hb]) (by simp[World.frozen?,hb])]
  rfl
 shift:=by
  intro b n c i vc va w w2 w3 hi hroom hc63 hov hcpA hcpB
  have hu:=Tryz.underlying28
  have hz1:¬((1:Int)=0):=by omega
  have hz2:¬((i:Int)=(n:Int)):=by omega
  have hz3:¬((c:Int)<(n:Int)+1):=by omega
  have hw1:IntKind.i64.wrap ((i:Int)+1)=(i:Int)+1:=by rw[IntKind.wrap_i64];omega
  have hw2:IntKind.i64.wrap ((n:Int)+1)=(n:Int)+1:=by rw[IntKind.wrap_i64];omega
  have hb1:(0:Int)≤(i:Int)+1:=by omega
  have hb0:(0:Int)≤(n:Int)+1:=by omega
  have hin:i≤n:=by omega
  have htn:((i:Int)+1).toNat=i+1:=by omega
  have Agl:((n:Int)+1).toNat=n+1:=by omega
  have hb3:(i:Int)≤(n:Int)+1:=by omega
  have hb4:(i:Int)+1≤(n:Int)+1:=by omega
  have hb5:(n:Int)+1≤(c:Int):=by omega
  have hci:¬(c=i):=by omega
  have Agm:¬(c=i+1):=by omega
  have hic:i≤c:=by omega
  go_enter Tryz.func135,Tryz.ntmps135
  go_wp2_with (simp only[hov])
  go_region_law (refine step_copy_runI rfl _ _ 28 28 rfl (.slice (some ⟨b,(i+1)*5,none⟩) (n+1-(i+1)) (c-(i+1))) (.slice (some ⟨b,i*5,none⟩) (n+1-i) (c-i)) (by simp[Act.eval,Act.put]) (by simp[Act.eval,Act.put]) (hcpA _ _ _) ?_)
  go_wp2_with (refine wpList_copy_runI _ rfl _ _ 28 28 rfl _ _ rfl rfl (hcpB _ _) ?_)
  go_ret
  exact⟨rfl,rfl⟩
set_option maxHeartbeats 4000000 in
set_option maxRecDepth 1000000 in
theorem Aiv:AaF Tryz.prog 136 28 5 where
 fn:=⟨_,Tryz.func136,rfl,by decide⟩
 walk:=by
  intro b n c i j A w w2 w3 hij hj hnc hc63 hA hap hcl
  have hu:=Tryz.underlying28
  have hic:i≤c:=by omega
  have hjc:j≤c:=by omega
  have Agn:¬(c=i+(n-j)):=by omega
  have hle1:i+(n-j)≤n:=by omega
  have hne:¬((i:Int)=(j:Int)):=by omega
  go_enter Tryz.func136,Tryz.ntmps136
  go_wp2_with fail
  go_region_law (refine Fb rfl _ _ 28 28 rfl (.slice (some ⟨b,0,none⟩) i c) (.slice (some A) (n-j) (c-j)) (by simp[Act.eval,Act.put]) (by simp[Act.eval,Act.put]) (hap _) ?_)
  go_wp2_with (refine EI _ rfl _ 28 rfl _ rfl (hcl _) ?_)
  go_ret
  exact⟨rfl,rfl⟩
abbrev Ac6:=Fe 5 64
abbrev Ac7:=delSpec 5
theorem Aex:AL Tryz.prog fun f' args s=>if f'=135 then Ac6 args s else none:=Qo Ac5 Aiu
theorem Aey:AL Tryz.prog fun f' args s=>if f'=136 then Ac7 args s else none:=Qp Ac5 Aiv
end
end AI
end Go.Proofs.YtgmgkkbpgndaaaaGreatDoor
