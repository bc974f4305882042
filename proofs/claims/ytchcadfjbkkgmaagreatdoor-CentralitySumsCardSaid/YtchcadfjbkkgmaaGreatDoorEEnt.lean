/- The arguments of a law: from the reader's data to abstract values. -/
import Derived.Test.YtchcadfjbkkgmaaGreatDoorESe
import Derived.DataReads
import GoSem.ClaimChange
import GoSem.ClaimJoined
namespace Go.Proofs.YtchcadfjbkkgmaaGreatDoor
namespace AI
open Go.RowKit
variable {P:Program} {w:World} {H:Type} {enc:TypeId×Value→H}
def pack (P:Program) (t:TypeId) (cs:List AV):AV:=match P.underlying t with
 |some (.struct _)=>.agg cs
 |some (.array _ _)=>.agg cs
 |_=>cs.getD 0 .junk
def G9 (P:Program) (ok:TypeId→Bool):List Field→Nat→Option Nat
 |[],n=>some n
 |f::fs,n=>if f.offset=n∧ok f.type=true then G9 P ok fs (n+P.cellsOf f.type)else none
def Mc (P:Program) (S:List TypeId) (t:TypeId):Bool:=match P.underlying t with
 |some .bool=>P.cellsOf t==1
 |some (.int _)=>P.cellsOf t==1
 |some .string=>P.cellsOf t==1
 |some (.slice e)=>P.cellsOf t==1&&S.contains e
 |some (.struct fs)=>0<P.cellsOf t&&G9 P (fun t=>S.contains t) fs.toList 0==some (P.cellsOf t)
 |some (.array n e)=>0<P.cellsOf t&&(S.contains e&&P.cellsOf t==n*P.cellsOf e)
 |_=>false
def Ot (P:Program) (S:List TypeId):Bool:=S.all fun t=>Mc P S t
theorem KY {P:Program} {S:List TypeId} (h:Ot P S=true) {t:TypeId} (ht:S.contains t=true):Mc P S t=true:=
 List.all_eq_true.1 h t (by simpa using ht)
def Dc (P:Program):Nat→TypeId→List AV→Prop
 |0,_,_=>False
 |d+1,t,cs=>match P.underlying t with
  |some .bool=>∃b,cs=[.bool b]
  |some (.int k)=>∃n,cs=[.int k n]∧(Lit.int k n).wf=true
  |some .string=>∃l,cs=[.str l]∧l.length≤maxLen
  |some (.slice e)=>cs=[.sl false []]∨∃xs,cs=[.sl true xs]∧xs.length≤maxLen∧(∀ x∈xs,∃cs',Dc P d e cs'∧x=pack P e cs')∧xs.length*P.bytesOf e≤reachBytes
  |some (.struct fs)=>cs.length=P.cellsOf t∧∀f∈fs.toList,Dc P d f.type ((cs.drop f.offset).take (P.cellsOf f.type))
  |some (.array n e)=>cs.length=P.cellsOf t∧∀i,i<n→Dc P d e ((cs.drop (i*P.cellsOf e)).take (P.cellsOf e))
  |_=>False
def like (P:Program) (d:Nat) (t:TypeId) (a:AV):Prop:=∃cs,Dc P d t cs∧a=pack P t cs
def Stand (w:World) (as:List AV) (cs:List Value):Prop:=
 as.length=cs.length∧∀(i:Nat) (c:AV),as[i]?=some c→∃v,cs[i]?=some v∧Rep w (fun b _=>b<w.heap.size) (fun _=>.nil) 0 c v∧c.one=true∧c.closed=true
theorem Qs {α:Type} {Q:Nat→α→Prop}:∀n,(∀ i,i<n→∃x,Q i x)→∃xs:List α,xs.length=n∧∀i x,xs[i]?=some x→Q i x
 |0,_=>⟨[],rfl,fun i x h=>by simp at h⟩
 |n+1,h=>by
  obtain⟨xs,h1,h2⟩:=Qs n fun i hi=>h i (by omega)
  obtain⟨x,hx⟩:=h n (by omega)
  refine⟨xs++[x],by simp[h1],fun i y hy=>?_⟩
  rcases Nat.lt_or_ge i xs.length with hi|hi
  ·rw[List.getElem?_append_left hi]at hy;exact h2 i y hy
  ·rw[List.getElem?_append_right hi]at hy
   have:i=n:=by
    have:=(List.getElem?_eq_some_iff.1 hy).1
    simp at this;omega
   subst this
   simp[h1]at hy
   subst hy
   exact hx
theorem JJ {α β:Type} {f:α→Option β}:∀{l:List α} {r:List β},l.mapM f=some r→r.length=l.length∧∀(i:Nat) (x:α),l[i]?=some x→∃y,r[i]?=some y∧f x=some y
 |[],r,h=>by
  simp at h
  subst h
  exact⟨rfl,fun i x h=>by simp at h⟩
 |a::l,r,h=>by
  simp only[List.mapM_cons,Option.bind_eq_bind,Option.bind_eq_some_iff,Option.pure_def,Option.some.injEq]at h
  obtain⟨y,hy,r',hr,rfl⟩:=h
  obtain⟨h1,h2⟩:=JJ hr
  refine⟨by simp[h1],fun i x hx=>?_⟩
  cases i with
  |zero=>simp at hx;subst hx;exact⟨y,rfl,hy⟩
  |succ i=>exact h2 i x (by simpa using hx)
theorem Stand.pack_cells {t:TypeId} {as:List AV} {d:Nat} (h:Dc P d t as):(pack P t as).cells=as:=by
 cases d with
 |zero=>cases h
 |succ d=>
  simp only[Dc]at h
  unfold pack
  split at h
  ·rename_i hu;obtain⟨b,rfl⟩:=h;simp only[hu];rfl
  ·rename_i hu;obtain⟨n,rfl,_⟩:=h;simp only[hu];rfl
  ·rename_i hu;obtain⟨l,rfl,_⟩:=h;simp only[hu];rfl
  ·rename_i hu
   rcases h with rfl|⟨xs,rfl,_⟩<;>simp only[hu]<;>rfl
  ·rename_i hu;simp only[hu];rfl
  ·rename_i hu;simp only[hu];rfl
  ·cases h
theorem NW {a:Addr} {n:Nat} {vs:List Value} (h:w.cells? 0 a n=some vs):vs.length=n∧∀i,i<n→∃v,vs[i]?=some v∧w.cell? (a.add i)=some v:=by
 unfold World.cells? at h
 rw[if_pos (Nat.zero_le _)]at h
 obtain⟨h1,h2⟩:=JJ h
 refine⟨by simpa using h1,fun i hi=>?_⟩
 obtain⟨y,h3,h4⟩:=h2 i i (by simp[hi])
 exact⟨y,h3,h4⟩
def Fits (P:Program) (t:TypeId) (d:DataW H):Prop:=(d.weights P t).all (fun n=>decide (n≤reachBytes))=true
def F7 (P:Program) (ts:List TypeId) (ds:List (DataW H)):Prop:=(DataW.weightsEach P ts ds).all (fun n=>decide (n≤reachBytes))=true
def LH (P:Program) (e:TypeId) (ds:List (DataW H)):Prop:=(DataW.weightsAll P e ds).all (fun n=>decide (n≤reachBytes))=true
theorem F7.cons {t:TypeId} {ts:List TypeId} {d:DataW H} {ds:List (DataW H)} (h:F7 P (t::ts) (d::ds)):Fits P t d∧F7 P ts ds:=by
 unfold F7 at h
 simp only[DataW.weightsEach,List.all_append,Bool.and_eq_true]at h
 exact h
theorem LH.cons {e:TypeId} {d:DataW H} {ds:List (DataW H)} (h:LH P e (d::ds)):Fits P e d∧LH P e ds:=by
 unfold LH at h
 simp only[DataW.weightsAll,List.all_append,Bool.and_eq_true]at h
 exact h
theorem LH.each {e:TypeId}:∀{ds:List (DataW H)},LH P e ds→∀n,F7 P (List.replicate n e) ds
 |[],_,0=>by unfold F7;simp[DataW.weightsEach]
 |[],_,n+1=>by unfold F7;simp[DataW.weightsEach,List.replicate_succ]
 |d::ds,_,0=>by unfold F7;simp[DataW.weightsEach]
 |d::ds,h,n+1=>by
  have ih:=LH.each h.cons.2 n
  have h1:=h.cons.1
  unfold F7 at ih ⊢
  unfold Fits at h1
  simp only[List.replicate_succ,DataW.weightsEach,List.all_append,Bool.and_eq_true]
  exact⟨h1,ih⟩
theorem LH.get {e:TypeId}:∀{ds:List (DataW H)},LH P e ds→∀(i:Nat) (d:DataW H),ds[i]?=some d→Fits P e d
 |[],_,i,d,h=>by simp at h
 |d::ds,h,0,d',h'=>by simp at h';subst h';exact h.cons.1
 |d::ds,h,i+1,d',h'=>h.cons.2.get i d' (by simpa using h')
theorem Kt {d:Nat} {w:World} {fuel:Nat} {sp:Nat→Bool} {held:Bool} {ok:TypeId→Bool}
 (ih:∀(t:TypeId) (cs:List Value) (x:DataW H×List MemPlace),ok t=true→DataW.trod enc P w 0 sp held fuel t cs=some x→Fits P t x.1→∃as,Dc P d t as∧Stand w as cs) (all:List Value):
 ∀(fs:List Field) (n m:Nat) (xs:List (DataW H×List MemPlace)),G9 P ok fs n=some m→fs.mapM (fun f=>DataW.trod enc P w 0 sp held fuel f.type ((all.drop f.offset).take (P.cellsOf f.type)))=some xs→m≤all.length→F7 P (fs.map (·.type)) (xs.map (·.1))→
  n≤m∧∃as,Stand w as ((all.drop n).take (m-n))∧∀f∈fs,n≤f.offset∧f.offset+P.cellsOf f.type≤m∧Dc P d f.type ((as.drop (f.offset-n)).take (P.cellsOf f.type))
 |[],n,m,xs,hok,_,hm,_=>by
  simp only[G9,Option.some.injEq]at hok
  subst hok
  exact⟨Nat.le_refl _,[],⟨by simp,fun i c h=>by simp at h⟩,fun f h=>by simp at h⟩
 |f::fs,n,m,xs,hok,hx,hm,hw=>by
  simp only[G9]at hok
  split at hok
  ·rename_i hc
   obtain⟨hoff,AlP⟩:=hc
   simp only[List.mapM_cons,Option.bind_eq_bind,Option.bind_eq_some_iff,Option.pure_def,Option.some.injEq]at hx
   obtain⟨y,hy,r',hr,rfl⟩:=hx
   obtain⟨hle,as2,h2,h3⟩:=Kt ih all fs _ m r' hok hr hm (F7.cons hw).2
   obtain⟨as1,k1,k2⟩:=ih _ _ _ AlP hy (F7.cons hw).1
   have hl1:as1.length=P.cellsOf f.type:=by rw[k2.1];simp;omega
   refine⟨by omega,as1++as2,⟨?_,fun i c hi=>?_⟩,fun g hg=>?_⟩
   ·rw[List.length_append,hl1,h2.1]
    simp;omega
   ·rcases Nat.lt_or_ge i as1.length with h|h
    ·rw[List.getElem?_append_left h]at hi
     obtain⟨v,hv,hrest⟩:=k2.2 i c hi
     refine⟨v,?_,hrest⟩
     rw[List.getElem?_take_of_lt (by omega),List.getElem?_drop]at hv ⊢
     rw[← hv,hoff]
    ·rw[List.getElem?_append_right h]at hi
     obtain⟨v,hv,hrest⟩:=h2.2 _ c hi
     refine⟨v,?_,hrest⟩
     have hlt:=(List.getElem?_eq_some_iff.1 hi).1
     rw[h2.1]at hlt
     simp only[List.length_take,List.length_drop]at hlt
     rw[List.getElem?_take_of_lt (by omega),List.getElem?_drop]at hv
     rw[List.getElem?_take_of_lt (by omega),List.getElem?_drop,←hv]
     congr 1
     omega
   ·rcases List.mem_cons.1 hg with rfl|hg
    ·refine⟨by omega,by omega,?_⟩
     rw[hoff,Nat.sub_self,List.drop_zero,List.take_append_of_le_length (by omega),List.take_of_length_le (by omega)]
     exact k1
    ·obtain⟨q1,q2,q3⟩:=h3 g hg
     refine⟨by omega,q2,?_⟩
     rw[List.drop_append,List.drop_eq_nil_of_le (by omega),List.nil_append,show g.offset-n-as1.length=g.offset-(n+P.cellsOf f.type) by omega]
     exact q3
  ·cases hok
def Uu (e:TypeId) (ce:Nat):Nat→Nat→List Field
 |_,0=>[]
 | k, n + 1 => { name := "", type := e, offset := k * ce, embedded := false, tag := "", pkgPath := "", byteOffset := 0 } :: Uu e ce (k + 1) n
theorem AaA {ok:TypeId→Bool} {e:TypeId} (h:ok e=true):∀n k,G9 P ok (Uu e (P.cellsOf e) k n) (k*P.cellsOf e)=some ((k+n)*P.cellsOf e)
 |0,k=>by simp[Uu,G9]
 |n+1,k=>by
  have ih:=AaA h n (k+1)
  simp only[Uu,G9,h,and_self,if_true]
  rw[show k*P.cellsOf e+P.cellsOf e=(k+1)*P.cellsOf e by rw[Nat.add_mul,Nat.one_mul],ih]
  congr 2;omega
theorem U9 {β:Type} {e:TypeId} {ce:Nat} (g:TypeId→Nat→Option β):∀n k,(Uu e ce k n).mapM (fun f=>g f.type f.offset)=(List.range' k n).mapM fun i=>g e (i*ce)
 |0,k=>rfl
 |n+1,k=>by
  have ih:=U9 (e:=e) (ce:=ce) g n (k+1)
  simp only[Uu,List.range'_succ,List.mapM_cons,ih]
theorem Tz {e:TypeId} {ce:Nat}:∀n k,(Uu e ce k n).map (·.type)=List.replicate n e
 |0,k=>rfl
 |n+1,k=>by simp only[Uu,List.map_cons,List.replicate_succ,Tz n (k+1)]
theorem XR {e:TypeId} {ce:Nat}:∀n k i,i<n→∃f∈Uu e ce k n,f.offset=(k+i)*ce∧f.type=e
 |0,k,i,h=>by omega
 |n+1,k,0,h=>⟨_,List.mem_cons_self ..,rfl,rfl⟩
 |n+1,k,i+1,h=>by
  obtain⟨f,h1,h2,h3⟩:=XR (e:=e) (ce:=ce) n (k+1) i (by omega)
  exact⟨f,List.mem_cons_of_mem _ h1,by rw[h2,show k+1+i=k+(i+1) by omega],h3⟩
theorem AbH {S:List TypeId} {t:TypeId} (h:Mc P S t=true):0<P.cellsOf t:=by
 simp only[Mc]at h
 split at h<;>first
  |(simp only[Bool.and_eq_true,beq_iff_eq,decide_eq_true_eq]at h;omega)
  |cases h
theorem Iq {c:AV} {v:Value} (r:Rep w (fun b _=>b<w.heap.size) (fun _=>.nil) 0 c v) (h1:c.one=true) (h2:c.closed=true):Stand w [c] [v]:=by
 refine⟨rfl,fun i x hi=>?_⟩
 cases i with
 |zero=>simp at hi;subst hi;exact⟨v,rfl,r,h1,h2⟩
 |succ i=>simp at hi
theorem XT {a:Addr} {v:Value} (h:w.cell? a=some v):a.block<w.heap.size:=by
 rcases Nat.lt_or_ge a.block w.heap.size with hlt|hge
 ·exact hlt
 ·have:w.heap[a.block]?=none:=Array.getElem?_eq_none hge
  simp[World.cell?,this]at h
theorem XU {d fuel:Nat} {e:TypeId} {sp:Nat→Bool} {held:Bool} (hpos:0<P.cellsOf e)
 (ih:∀(cs:List Value) (x:DataW H×List MemPlace),DataW.trod enc P w 0 sp held fuel e cs=some x→Fits P e x.1→∃as,Dc P d e as∧Stand w as cs)
 {a:Addr} {len cap:Nat} {elems:List (DataW H×List MemPlace)} (hcap:len≤cap) (hmax:cap≤maxLen)
 (h:(List.range len).mapM (fun i=>(w.cells? 0 (a.add (i*P.cellsOf e)) (P.cellsOf e)).bind (DataW.trod enc P w 0 sp held fuel e))=some elems)
 (hfe:LH P e (elems.map (·.1))) (hby:len*P.bytesOf e≤reachBytes)
 (h':0<cap→∃x,(w.cells? 0 (a.add (0*P.cellsOf e)) (P.cellsOf e)).bind (DataW.trod enc P w 0 sp held fuel e)=some x):
 ∃as,(as=[.sl false []]∨∃xs,as=[.sl true xs]∧xs.length≤maxLen∧(∀ x∈xs,∃cs',Dc P d e cs'∧x=pack P e cs')∧xs.length*P.bytesOf e≤reachBytes)∧Stand w as [.slice (some a) len cap]:=by
 rcases Nat.eq_zero_or_pos cap with h0|hc0
 ·obtain rfl:len=0:=by omega
  subst h0
  exact⟨[.sl true []],.inr ⟨[],rfl,Nat.zero_le _,fun x hx=>by simp at hx,by simp⟩,Iq (.sl0 a) rfl rfl⟩
 ·obtain⟨hl,hg⟩:=JJ h
  have hel:∀i,i<len→∃as vs,w.cells? 0 (a.add (i*P.cellsOf e)) (P.cellsOf e)=some vs∧Dc P d e as∧Stand w as vs:=by
   intro i hi
   obtain⟨y,hyi,h2⟩:=hg i i (by simp[hi])
   rw[Option.bind_eq_some_iff]at h2
   obtain⟨vs,h3,h4⟩:=h2
   obtain⟨as,h5,h6⟩:=ih _ _ h4 (hfe.get i y.1 (by rw[List.getElem?_map,hyi];rfl))
   exact⟨as,vs,h3,h5,h6⟩
  obtain⟨ass,hass,hq⟩:=Qs (Q:=fun i as=>∃vs,w.cells? 0 (a.add (i*P.cellsOf e)) (P.cellsOf e)=some vs∧Dc P d e as∧Stand w as vs) len hel
  obtain⟨b,off,spot⟩:=a
  have hspot:spot=none:=by
   obtain⟨x,hx⟩:=h' hc0
   rw[Option.bind_eq_some_iff]at hx
   obtain⟨vs,h3,_⟩:=hx
   obtain⟨_,h5⟩:=NW h3
   obtain⟨v,_,h6⟩:=h5 0 hpos
   simpa[Addr.add]using World.cell?_spot h6
  subst hspot
  have hcells:∀(i:Nat) (x:AV) (j:Nat) (c:AV),(ass.map (pack P e))[i]?=some x→x.cells[j]?=some c→
        ∃v,w.cell? ⟨b,off+i*P.cellsOf e+j,none⟩=some v∧Rep w (fun b _=>b<w.heap.size) (fun _=>.nil) 0 c v∧c.one=true∧c.closed=true:=by
   intro i x j c hx hj
   rw[List.getElem?_map,Option.map_eq_some_iff]at hx
   obtain⟨as,has,rfl⟩:=hx
   obtain⟨vs,h3,h4,h5⟩:=hq i as has
   rw[Stand.pack_cells h4]at hj
   obtain⟨v,h6,h7,h8,h9⟩:=h5.2 j c hj
   obtain⟨h10,h11⟩:=NW h3
   have hjl:j<P.cellsOf e:=by
        have:=(List.getElem?_eq_some_iff.1 h6).1
        omega
   obtain⟨v',h12,h13⟩:=h11 j hjl
   rw[h6]at h12
   cases h12
   refine⟨v,?_,h7,h8,h9⟩
   rw[← h13]
   congr 1
   simp only[Addr.add]
   split<;>split<;>simp<;>omega
  refine⟨[.sl true (ass.map (pack P e))],.inr ⟨_,rfl,by simp;omega,fun x hx=>?_,by rw[List.length_map,hass];exact hby⟩,Iq ?_ rfl ?_⟩
  ·simp only[List.mem_map]at hx
   obtain⟨as,h1,rfl⟩:=hx
   obtain⟨i,hi⟩:=List.mem_iff_getElem?.1 h1
   obtain⟨vs,_,h4,_⟩:=hq i as hi
   exact⟨as,h4,rfl⟩
  ·refine .sl _ len b off cap (P.cellsOf e) (fun i j=>(w.cell? ⟨b,off+i*P.cellsOf e+j,none⟩).getD undef) (by simp[hass]) hcap hpos ?_ ?_ ?_
   ·intro i x hx
    rw[List.getElem?_map,Option.map_eq_some_iff]at hx
    obtain⟨as,has,rfl⟩:=hx
    obtain⟨vs,h3,h4,h5⟩:=hq i as has
    rw[Stand.pack_cells h4,h5.1]
    exact(NW h3).1
   ·intro i x j c hx hj
    obtain⟨v,h1,h2,h3,h4⟩:=hcells i x j c hx hj
    refine⟨XT h1,by rw[h1];rfl,h4,h3⟩
   ·intro i x j c hx hj
    obtain⟨v,h1,h2,h3,h4⟩:=hcells i x j c hx hj
    simpa only[h1,Option.getD_some]using h2
  ·rfl
theorem Qi {S:List TypeId} (hS:Ot P S=true):∀(fuel:Nat) (t:TypeId) (cs:List Value) (x:DataW H×List MemPlace),S.contains t=true→DataW.trod enc P w 0 (fun _=>true) true fuel t cs=some x→Fits P t x.1→∃as,Dc P fuel t as∧Stand w as cs
 |0,_,_,_,_,h,_=>by cases h
 |fuel+1,t,cs,x,hmem,hx,hwt=>by
  have ih:=Qi hS fuel
  have ht:=KY hS hmem
  simp only[Mc]at ht
  cases hu:P.underlying t with
  |none=>rw[hu]at ht;cases ht
  |some k=>
   rw[hu]at ht
   cases k with
   |bool=>
    unfold DataW.trod at hx
    rw[hu]at hx
    rcases cs with _|⟨c,_|⟨c',r⟩⟩<;>(try cases c)<;>simp at hx
    rename_i b
    exact⟨[.bool b],by simp only[Dc,hu];exact⟨b,rfl⟩,Iq (.bool b) rfl rfl⟩
   |int k=>
    unfold DataW.trod at hx
    rw[hu]at hx
    rcases cs with _|⟨c,_|⟨c',r⟩⟩<;>(try cases c)<;>simp at hx
    rename_i k' n
    obtain⟨⟨rfl,hw⟩,_⟩:=hx
    exact⟨[.int k' n],by simp only[Dc,hu];exact⟨n,rfl,hw⟩,Iq (.int k' n) rfl rfl⟩
   |string=>
    unfold DataW.trod at hx
    rw[hu]at hx
    rcases cs with _|⟨c,_|⟨c',r⟩⟩<;>(try cases c)<;>simp at hx
    rename_i s
    obtain⟨hs,_⟩:=hx
    exact⟨[.str s.data.toList],by simp only[Dc,hu];exact⟨_,rfl,by simpa using hs⟩,Iq (.str s _ rfl) rfl rfl⟩
   |slice e=>
    simp only[Bool.and_eq_true,beq_iff_eq]at ht
    obtain⟨hc,ht⟩:=ht
    have hpos:=AbH (KY hS ht)
    unfold DataW.trod at hx
    rw[hu]at hx
    rcases cs with _|⟨c,_|⟨c',r⟩⟩<;>(try cases c)<;>(try (simp at hx;done))
    rename_i ao len cap
    cases ao with
    |none=>
     rcases len with _|len<;>rcases cap with _|cap<;>(try (simp at hx;done))
     exact⟨[.sl false []],by simp only[Dc,hu];simp,Iq .EI rfl rfl⟩
    |some a=>
     simp only at hx
     split at hx
     ·rename_i hb
      rw[Option.bind_eq_some_iff]at hx
      obtain⟨elems,h1,h2⟩:=hx
      simp only[if_true,Option.map_eq_some_iff]at h2
      obtain⟨rest,h2,hxe⟩:=h2
      subst hxe
      have hw0:=hwt
      unfold Fits at hwt
      simp only[DataW.weights,hu,List.all_cons,List.all_append,Bool.and_eq_true,decide_eq_true_eq,List.length_map]at hwt
      have hel:=(JJ h1).1
      rw[List.length_range]at hel
      have h0:0<cap→∃x,(w.cells? 0 (a.add (0*P.cellsOf e)) (P.cellsOf e)).bind (DataW.trod enc P w 0 (fun _=>true) true fuel e)=some x:=by
          intro hcap
          rcases Nat.eq_zero_or_pos len with hl|hl
          ·subst hl
           obtain⟨y,_,hy⟩:=(JJ h2).2 0 0 (by simp[hcap])
           exact⟨y,hy⟩
          ·obtain⟨y,_,hy⟩:=(JJ h1).2 0 0 (by simp[hl])
           exact⟨y,hy⟩
      obtain⟨as,k1,k2⟩:=XU hpos (fun cs x h=>ih e cs x ht h) hb.2.1 hb.2.2 h1 hwt.2.1 (Nat.le_trans (Nat.mul_le_mul_right _ (by omega)) hwt.1) h0
      exact⟨as,by simp only[Dc,hu];exact k1,k2⟩
     ·cases hx
   |struct fs=>
    simp only[Bool.and_eq_true,beq_iff_eq,decide_eq_true_eq]at ht
    obtain⟨hpos,hok⟩:=ht
    have hx:(if cs.length=P.cellsOf t then(fs.toList.mapM fun f=>DataW.trod enc P w 0 (fun _=>true) true fuel f.type ((cs.drop f.offset).take (P.cellsOf f.type))).map fun xs=>(DataW.agg (xs.map (·.1)),xs.flatMap (·.2))else none)=some x:=by
     unfold DataW.trod at hx
     rw[hu]at hx
     rcases cs with _|⟨c,_|⟨c',r⟩⟩<;>(try cases c)<;>exact hx
    split at hx
    ·rename_i hl
     simp only[Option.map_eq_some_iff]at hx
     obtain⟨xs,h1,hxe⟩:=hx
     subst hxe
     have hwe:F7 P (fs.toList.map (·.type)) (xs.map (·.1)):=by
      unfold Fits at hwt
      simp only[DataW.weights,hu]at hwt
      exact hwt
     obtain⟨_,as,h2,h3⟩:=Kt (ok:=fun t=>S.contains t) (fun t cs x ht hx=>ih t cs x ht hx) cs fs.toList 0 _ xs hok h1 (by omega) hwe
     simp only[List.drop_zero,Nat.sub_zero,←hl,List.take_length]at h2
     refine⟨as,?_,h2⟩
     simp only[Dc,hu]
     exact⟨by rw[h2.1,hl],fun f hf=>by simpa using(h3 f hf).2.2⟩
    ·cases hx
   |array n e=>
    simp only[Bool.and_eq_true,beq_iff_eq,decide_eq_true_eq]at ht
    obtain⟨hpos,hmem,hce⟩:=ht
    have hx:(if cs.length=P.cellsOf t then((List.range n).mapM fun i=>DataW.trod enc P w 0 (fun _=>true) true fuel e ((cs.drop (i*P.cellsOf e)).take (P.cellsOf e))).map fun xs=>(DataW.agg (xs.map (·.1)),xs.flatMap (·.2))else none)=some x:=by
     unfold DataW.trod at hx
     rw[hu]at hx
     rcases cs with _|⟨c,_|⟨c',r⟩⟩<;>(try cases c)<;>exact hx
    split at hx
    ·rename_i hl
     simp only[Option.map_eq_some_iff]at hx
     obtain⟨xs,h1,hxe⟩:=hx
     subst hxe
     have hwe:LH P e (xs.map (·.1)):=by
      unfold Fits at hwt
      simp only[DataW.weights,hu]at hwt
      exact hwt
     have h1':(Uu e (P.cellsOf e) 0 n).mapM (fun f=>DataW.trod enc P w 0 (fun _=>true) true fuel f.type ((cs.drop f.offset).take (P.cellsOf f.type)))=some xs:=by
      rw[← h1,List.range_eq_range']
      exact U9 (e:=e) (fun t o=>DataW.trod enc P w 0 (fun _=>true) true fuel t ((cs.drop o).take (P.cellsOf t))) n 0
     have hok:=AaA (P:=P) (ok:=fun t=>S.contains t) hmem n 0
     rw[Nat.zero_mul,Nat.zero_add]at hok
     obtain⟨_,as,h2,h3⟩:=Kt (ok:=fun t=>S.contains t) (fun t cs x ht hx=>ih t cs x ht hx) cs _ 0 _ xs hok h1' (by omega) (by rw[Tz];exact hwe.each n)
     simp only[List.drop_zero,Nat.sub_zero,←hce,←hl,List.take_length]at h2
     refine⟨as,?_,h2⟩
     simp only[Dc,hu]
     refine⟨by rw[h2.1,hl],fun i hi=>?_⟩
     obtain⟨f,f1,f2,f3⟩:=XR (e:=e) (ce:=P.cellsOf e) n 0 i hi
     have:=(h3 f f1).2.2
     rw[f2,f3,Nat.zero_add,Nat.sub_zero]at this
     exact this
    ·cases hx
   |_=>cases ht
end AI
end Go.Proofs.YtchcadfjbkkgmaaGreatDoor
