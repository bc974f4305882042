/- The arguments of a law: from the reader's data to abstract values. From 'the evaluator yields true on all data of the types' to the call in any world. Data of a type, taken apart. More on lists of things: appending, parts. -/
import Derived.Test.YtiimoiecghmebaaDoorFSe
import Derived.DataReads
import GoSem.ClaimChange
import GoSem.ClaimJoined
import Derived.Test.YtiimoiecghmebaaDoorFVa
import Derived.WalkKit
import Derived.ProofKit
import Derived.OpenShut
import Derived.ShutString
import Derived.ChangeOld
import Derived.Below
import Derived.Carry
import Derived.Test.YtiimoiecghmebaaDoorFMab
set_option linter.unusedVariables false
namespace Go.Proofs.YtiimoiecghmebaaDoor
namespace AI
section
open Go.RowKit
variable {P:Program} {w:World} {H:Type} {enc:TypeId×Value→H}
def pack (P:Program) (t:TypeId) (cs:List AV):AV:=match P.underlying t with
 |some (.struct _)=>.agg cs
 |some (.array _ _)=>.agg cs
 |_=>cs.getD 0 .junk
def GY (P:Program) (ok:TypeId→Bool):List Field→Nat→Option Nat
 |[],n=>some n
 |f::fs,n=>if f.offset=n∧ok f.type=true then GY P ok fs (n+P.cellsOf f.type)else none
def LV (P:Program) (S:List TypeId) (t:TypeId):Bool:=match P.underlying t with
 |some .bool=>P.cellsOf t==1
 |some (.int _)=>P.cellsOf t==1
 |some .string=>P.cellsOf t==1
 |some (.slice e)=>P.cellsOf t==1&&S.contains e
 |some (.struct fs)=>0<P.cellsOf t&&GY P (fun t=>S.contains t) fs.toList 0==some (P.cellsOf t)
 |some (.array n e)=>0<P.cellsOf t&&(S.contains e&&P.cellsOf t==n*P.cellsOf e)
 |_=>false
def Oy (P:Program) (S:List TypeId):Bool:=S.all fun t=>LV P S t
theorem KY {P:Program} {S:List TypeId} (h:Oy P S=true) {t:TypeId} (ht:S.contains t=true):LV P S t=true:=
 List.all_eq_true.1 h t (by simpa using ht)
def BF (P:Program):Nat→TypeId→List AV→Prop
 |0,_,_=>False
 |d+1,t,cs=>match P.underlying t with
  |some .bool=>∃b,cs=[.bool b]
  |some (.int k)=>∃n,cs=[.int k n]∧(Lit.int k n).wf=true
  |some .string=>∃l,cs=[.str l]∧l.length≤maxLen
  |some (.slice e)=>cs=[.sl false []]∨∃xs,cs=[.sl true xs]∧xs.length≤maxLen∧(∀ x∈xs,∃cs',BF P d e cs'∧x=pack P e cs')∧xs.length*P.bytesOf e≤reachBytes
  |some (.struct fs)=>cs.length=P.cellsOf t∧∀f∈fs.toList,BF P d f.type ((cs.drop f.offset).take (P.cellsOf f.type))
  |some (.array n e)=>cs.length=P.cellsOf t∧∀i,i<n→BF P d e ((cs.drop (i*P.cellsOf e)).take (P.cellsOf e))
  |_=>False
def like (P:Program) (d:Nat) (t:TypeId) (a:AV):Prop:=∃cs,BF P d t cs∧a=pack P t cs
def Stand (w:World) (as:List AV) (cs:List Value):Prop:=
 as.length=cs.length∧∀(i:Nat) (c:AV),as[i]?=some c→∃v,cs[i]?=some v∧Rep w (fun b _=>b<w.heap.size) (fun _=>.nil) 0 c v∧c.one=true∧c.closed=true
theorem Qw {α:Type} {Q:Nat→α→Prop}:∀n,(∀ i,i<n→∃x,Q i x)→∃xs:List α,xs.length=n∧∀i x,xs[i]?=some x→Q i x
 |0,_=>⟨[],rfl,fun i x h=>by simp at h⟩
 |n+1,h=>by
  obtain⟨xs,h1,h2⟩:=Qw n fun i hi=>h i (by omega)
  obtain⟨x,hx⟩:=h n (by omega)
  refine⟨xs++[x],by simp[h1],fun i y hy=>?_⟩
  rcases Nat.lt_or_ge i xs.length with hi|hi
  ·rw[List.getElem?_append_left hi]at hy;exact h2 i y hy
  ·rw[List.getElem?_append_right hi]at hy
   have:i=n:=by
    have:=(List.getElem?_eq_some_iff.1 hy).1
    simp at this;omega
   subst this
   simp[h1]at hy
   subst hy
   exact hx
theorem Jz {α β:Type} {f:α→Option β}:∀{l:List α} {r:List β},l.mapM f=some r→r.length=l.length∧∀(i:Nat) (x:α),l[i]?=some x→∃y,r[i]?=some y∧f x=some y
 |[],r,h=>by
  simp at h
  subst h
  exact⟨rfl,fun i x h=>by simp at h⟩
 |a::l,r,h=>by
  simp only[List.mapM_cons,Option.bind_eq_bind,Option.bind_eq_some_iff,Option.pure_def,Option.some.injEq]at h
  obtain⟨y,hy,r',hr,rfl⟩:=h
  obtain⟨h1,h2⟩:=Jz hr
  refine⟨by simp[h1],fun i x hx=>?_⟩
  cases i with
  |zero=>simp at hx;subst hx;exact⟨y,rfl,hy⟩
  |succ i=>exact h2 i x (by simpa using hx)
theorem Stand.pack_cells {t:TypeId} {as:List AV} {d:Nat} (h:BF P d t as):(pack P t as).cells=as:=by
 cases d with
 |zero=>cases h
 |succ d=>
  simp only[BF]at h
  unfold pack
  split at h
  ·rename_i hu;obtain⟨b,rfl⟩:=h;simp only[hu];rfl
  ·rename_i hu;obtain⟨n,rfl,_⟩:=h;simp only[hu];rfl
  ·rename_i hu;obtain⟨l,rfl,_⟩:=h;simp only[hu];rfl
  ·rename_i hu
   rcases h with rfl|⟨xs,rfl,_⟩<;>simp only[hu]<;>rfl
  ·rename_i hu;simp only[hu];rfl
  ·rename_i hu;simp only[hu];rfl
  ·cases h
theorem NJ {a:Addr} {n:Nat} {vs:List Value} (h:w.cells? 0 a n=some vs):vs.length=n∧∀i,i<n→∃v,vs[i]?=some v∧w.cell? (a.add i)=some v:=by
 unfold World.cells? at h
 rw[if_pos (Nat.zero_le _)]at h
 obtain⟨h1,h2⟩:=Jz h
 refine⟨by simpa using h1,fun i hi=>?_⟩
 obtain⟨y,h3,h4⟩:=h2 i i (by simp[hi])
 exact⟨y,h3,h4⟩
def Fits (P:Program) (t:TypeId) (d:DataW H):Prop:=(d.weights P t).all (fun n=>decide (n≤reachBytes))=true
def FU (P:Program) (ts:List TypeId) (ds:List (DataW H)):Prop:=(DataW.weightsEach P ts ds).all (fun n=>decide (n≤reachBytes))=true
def Ls (P:Program) (e:TypeId) (ds:List (DataW H)):Prop:=(DataW.weightsAll P e ds).all (fun n=>decide (n≤reachBytes))=true
theorem FU.cons {t:TypeId} {ts:List TypeId} {d:DataW H} {ds:List (DataW H)} (h:FU P (t::ts) (d::ds)):Fits P t d∧FU P ts ds:=by
 unfold FU at h
 simp only[DataW.weightsEach,List.all_append,Bool.and_eq_true]at h
 exact h
theorem Ls.cons {e:TypeId} {d:DataW H} {ds:List (DataW H)} (h:Ls P e (d::ds)):Fits P e d∧Ls P e ds:=by
 unfold Ls at h
 simp only[DataW.weightsAll,List.all_append,Bool.and_eq_true]at h
 exact h
theorem Ls.each {e:TypeId}:∀{ds:List (DataW H)},Ls P e ds→∀n,FU P (List.replicate n e) ds
 |[],_,0=>by unfold FU;simp[DataW.weightsEach]
 |[],_,n+1=>by unfold FU;simp[DataW.weightsEach,List.replicate_succ]
 |d::ds,_,0=>by unfold FU;simp[DataW.weightsEach]
 |d::ds,h,n+1=>by
  have ih:=Ls.each h.cons.2 n
  have h1:=h.cons.1
  unfold FU at ih ⊢
  unfold Fits at h1
  simp only[List.replicate_succ,DataW.weightsEach,List.all_append,Bool.and_eq_true]
  exact⟨h1,ih⟩
theorem Ls.get {e:TypeId}:∀{ds:List (DataW H)},Ls P e ds→∀(i:Nat) (d:DataW H),ds[i]?=some d→Fits P e d
 |[],_,i,d,h=>by simp at h
 |d::ds,h,0,d',h'=>by simp at h';subst h';exact h.cons.1
 |d::ds,h,i+1,d',h'=>h.cons.2.get i d' (by simpa using h')
theorem Ko {d:Nat} {w:World} {fuel:Nat} {sp:Nat→Bool} {held:Bool} {ok:TypeId→Bool}
 (ih:∀(t:TypeId) (cs:List Value) (x:DataW H×List MemPlace),ok t=true→DataW.trod enc P w 0 sp held fuel t cs=some x→Fits P t x.1→∃as,BF P d t as∧Stand w as cs) (all:List Value):
 ∀(fs:List Field) (n m:Nat) (xs:List (DataW H×List MemPlace)),GY P ok fs n=some m→fs.mapM (fun f=>DataW.trod enc P w 0 sp held fuel f.type ((all.drop f.offset).take (P.cellsOf f.type)))=some xs→m≤all.length→FU P (fs.map (·.type)) (xs.map (·.1))→
  n≤m∧∃as,Stand w as ((all.drop n).take (m-n))∧∀f∈fs,n≤f.offset∧f.offset+P.cellsOf f.type≤m∧BF P d f.type ((as.drop (f.offset-n)).take (P.cellsOf f.type))
 |[],n,m,xs,hok,_,hm,_=>by
  simp only[GY,Option.some.injEq]at hok
  subst hok
  exact⟨Nat.le_refl _,[],⟨by simp,fun i c h=>by simp at h⟩,fun f h=>by simp at h⟩
 |f::fs,n,m,xs,hok,hx,hm,hw=>by
  simp only[GY]at hok
  split at hok
  ·rename_i hc
   obtain⟨hoff,AlF⟩:=hc
   simp only[List.mapM_cons,Option.bind_eq_bind,Option.bind_eq_some_iff,Option.pure_def,Option.some.injEq]at hx
   obtain⟨y,hy,r',hr,rfl⟩:=hx
   obtain⟨hle,as2,h2,h3⟩:=Ko ih all fs _ m r' hok hr hm (FU.cons hw).2
   obtain⟨as1,k1,k2⟩:=ih _ _ _ AlF hy (FU.cons hw).1
   have hl1:as1.length=P.cellsOf f.type:=by rw[k2.1];simp;omega
   refine⟨by omega,as1++as2,⟨?_,fun i c hi=>?_⟩,fun g hg=>?_⟩
   ·rw[List.length_append,hl1,h2.1]
    simp;omega
   ·rcases Nat.lt_or_ge i as1.length with h|h
    ·rw[List.getElem?_append_left h]at hi
     obtain⟨v,hv,hrest⟩:=k2.2 i c hi
     refine⟨v,?_,hrest⟩
     rw[List.getElem?_take_of_lt (by omega),List.getElem?_drop]at hv ⊢
     rw[← hv,hoff]
    ·rw[List.getElem?_append_right h]at hi
     obtain⟨v,hv,hrest⟩:=h2.2 _ c hi
     refine⟨v,?_,hrest⟩
     have hlt:=(List.getElem?_eq_some_iff.1 hi).1
     rw[h2.1]at hlt
     simp only[List.length_take,List.length_drop]at hlt
     rw[List.getElem?_take_of_lt (by omega),List.getElem?_drop]at hv
     rw[List.getElem?_take_of_lt (by omega),List.getElem?_drop,←hv]
     congr 1
     omega
   ·rcases List.mem_cons.1 hg with rfl|hg
    ·refine⟨by omega,by omega,?_⟩
     rw[hoff,Nat.sub_self,List.drop_zero,List.take_append_of_le_length (by omega),List.take_of_length_le (by omega)]
     exact k1
    ·obtain⟨q1,q2,q3⟩:=h3 g hg
     refine⟨by omega,q2,?_⟩
     rw[List.drop_append,List.drop_eq_nil_of_le (by omega),List.nil_append,show g.offset-n-as1.length=g.offset-(n+P.cellsOf f.type) by omega]
     exact q3
  ·cases hok
def Uo (e:TypeId) (ce:Nat):Nat→Nat→List Field
 |_,0=>[]
 | k, n + 1 => { name := "", type := e, offset := k * ce, embedded := false, tag := "", pkgPath := "", byteOffset := 0 } :: Uo e ce (k + 1) n
theorem Aaq {ok:TypeId→Bool} {e:TypeId} (h:ok e=true):∀n k,GY P ok (Uo e (P.cellsOf e) k n) (k*P.cellsOf e)=some ((k+n)*P.cellsOf e)
 |0,k=>by simp[Uo,GY]
 |n+1,k=>by
  have ih:=Aaq h n (k+1)
  simp only[Uo,GY,h,and_self,if_true]
  rw[show k*P.cellsOf e+P.cellsOf e=(k+1)*P.cellsOf e by rw[Nat.add_mul,Nat.one_mul],ih]
  congr 2;omega
theorem U9 {β:Type} {e:TypeId} {ce:Nat} (g:TypeId→Nat→Option β):∀n k,(Uo e ce k n).mapM (fun f=>g f.type f.offset)=(List.range' k n).mapM fun i=>g e (i*ce)
 |0,k=>rfl
 |n+1,k=>by
  have ih:=U9 (e:=e) (ce:=ce) g n (k+1)
  simp only[Uo,List.range'_succ,List.mapM_cons,ih]
theorem TY {e:TypeId} {ce:Nat}:∀n k,(Uo e ce k n).map (·.type)=List.replicate n e
 |0,k=>rfl
 |n+1,k=>by simp only[Uo,List.map_cons,List.replicate_succ,TY n (k+1)]
theorem Ya {e:TypeId} {ce:Nat}:∀n k i,i<n→∃f∈Uo e ce k n,f.offset=(k+i)*ce∧f.type=e
 |0,k,i,h=>by omega
 |n+1,k,0,h=>⟨_,List.mem_cons_self ..,rfl,rfl⟩
 |n+1,k,i+1,h=>by
  obtain⟨f,h1,h2,h3⟩:=Ya (e:=e) (ce:=ce) n (k+1) i (by omega)
  exact⟨f,List.mem_cons_of_mem _ h1,by rw[h2,show k+1+i=k+(i+1) by omega],h3⟩
theorem Abx {S:List TypeId} {t:TypeId} (h:LV P S t=true):0<P.cellsOf t:=by
 simp only[LV]at h
 split at h<;>first
  |(simp only[Bool.and_eq_true,beq_iff_eq,decide_eq_true_eq]at h;omega)
  |cases h
theorem Ii {c:AV} {v:Value} (r:Rep w (fun b _=>b<w.heap.size) (fun _=>.nil) 0 c v) (h1:c.one=true) (h2:c.closed=true):Stand w [c] [v]:=by
 refine⟨rfl,fun i x hi=>?_⟩
 cases i with
 |zero=>simp at hi;subst hi;exact⟨v,rfl,r,h1,h2⟩
 |succ i=>simp at hi
theorem Yb {a:Addr} {v:Value} (h:w.cell? a=some v):a.block<w.heap.size:=by
 rcases Nat.lt_or_ge a.block w.heap.size with hlt|hge
 ·exact hlt
 ·have:w.heap[a.block]?=none:=Array.getElem?_eq_none hge
  simp[World.cell?,this]at h
theorem Yc {d fuel:Nat} {e:TypeId} {sp:Nat→Bool} {held:Bool} (hpos:0<P.cellsOf e)
 (ih:∀(cs:List Value) (x:DataW H×List MemPlace),DataW.trod enc P w 0 sp held fuel e cs=some x→Fits P e x.1→∃as,BF P d e as∧Stand w as cs)
 {a:Addr} {len cap:Nat} {elems:List (DataW H×List MemPlace)} (hcap:len≤cap) (hmax:cap≤maxLen)
 (h:(List.range len).mapM (fun i=>(w.cells? 0 (a.add (i*P.cellsOf e)) (P.cellsOf e)).bind (DataW.trod enc P w 0 sp held fuel e))=some elems)
 (hfe:Ls P e (elems.map (·.1))) (hby:len*P.bytesOf e≤reachBytes)
 (h':0<cap→∃x,(w.cells? 0 (a.add (0*P.cellsOf e)) (P.cellsOf e)).bind (DataW.trod enc P w 0 sp held fuel e)=some x):
 ∃as,(as=[.sl false []]∨∃xs,as=[.sl true xs]∧xs.length≤maxLen∧(∀ x∈xs,∃cs',BF P d e cs'∧x=pack P e cs')∧xs.length*P.bytesOf e≤reachBytes)∧Stand w as [.slice (some a) len cap]:=by
 rcases Nat.eq_zero_or_pos cap with h0|hc0
 ·obtain rfl:len=0:=by omega
  subst h0
  exact⟨[.sl true []],.inr ⟨[],rfl,Nat.zero_le _,fun x hx=>by simp at hx,by simp⟩,Ii (.sl0 a) rfl rfl⟩
 ·obtain⟨hl,hg⟩:=Jz h
  have hel:∀i,i<len→∃as vs,w.cells? 0 (a.add (i*P.cellsOf e)) (P.cellsOf e)=some vs∧BF P d e as∧Stand w as vs:=by
   intro i hi
   obtain⟨y,hyi,h2⟩:=hg i i (by simp[hi])
   rw[Option.bind_eq_some_iff]at h2
   obtain⟨vs,h3,h4⟩:=h2
   obtain⟨as,h5,h6⟩:=ih _ _ h4 (hfe.get i y.1 (by rw[List.getElem?_map,hyi];rfl))
   exact⟨as,vs,h3,h5,h6⟩
  obtain⟨ass,hass,hq⟩:=Qw (Q:=fun i as=>∃vs,w.cells? 0 (a.add (i*P.cellsOf e)) (P.cellsOf e)=some vs∧BF P d e as∧Stand w as vs) len hel
  obtain⟨b,off,spot⟩:=a
  have hspot:spot=none:=by
   obtain⟨x,hx⟩:=h' hc0
   rw[Option.bind_eq_some_iff]at hx
   obtain⟨vs,h3,_⟩:=hx
   obtain⟨_,h5⟩:=NJ h3
   obtain⟨v,_,h6⟩:=h5 0 hpos
   simpa[Addr.add]using World.cell?_spot h6
  subst hspot
  have hcells:∀(i:Nat) (x:AV) (j:Nat) (c:AV),(ass.map (pack P e))[i]?=some x→x.cells[j]?=some c→
        ∃v,w.cell? ⟨b,off+i*P.cellsOf e+j,none⟩=some v∧Rep w (fun b _=>b<w.heap.size) (fun _=>.nil) 0 c v∧c.one=true∧c.closed=true:=by
   intro i x j c hx hj
   rw[List.getElem?_map,Option.map_eq_some_iff]at hx
   obtain⟨as,has,rfl⟩:=hx
   obtain⟨vs,h3,h4,h5⟩:=hq i as has
   rw[Stand.pack_cells h4]at hj
   obtain⟨v,h6,h7,h8,h9⟩:=h5.2 j c hj
   obtain⟨h10,h11⟩:=NJ h3
   have hjl:j<P.cellsOf e:=by
        have:=(List.getElem?_eq_some_iff.1 h6).1
        omega
   obtain⟨v',h12,h13⟩:=h11 j hjl
   rw[h6]at h12
   cases h12
   refine⟨v,?_,h7,h8,h9⟩
   rw[← h13]
   congr 1
   simp only[Addr.add]
   split<;>split<;>simp<;>omega
  refine⟨[.sl true (ass.map (pack P e))],.inr ⟨_,rfl,by simp;omega,fun x hx=>?_,by rw[List.length_map,hass];exact hby⟩,Ii ?_ rfl ?_⟩
  ·simp only[List.mem_map]at hx
   obtain⟨as,h1,rfl⟩:=hx
   obtain⟨i,hi⟩:=List.mem_iff_getElem?.1 h1
   obtain⟨vs,_,h4,_⟩:=hq i as hi
   exact⟨as,h4,rfl⟩
  ·refine .sl _ len b off cap (P.cellsOf e) (fun i j=>(w.cell? ⟨b,off+i*P.cellsOf e+j,none⟩).getD undef) (by simp[hass]) hcap hpos ?_ ?_ ?_
   ·intro i x hx
    rw[List.getElem?_map,Option.map_eq_some_iff]at hx
    obtain⟨as,has,rfl⟩:=hx
    obtain⟨vs,h3,h4,h5⟩:=hq i as has
    rw[Stand.pack_cells h4,h5.1]
    exact(NJ h3).1
   ·intro i x j c hx hj
    obtain⟨v,h1,h2,h3,h4⟩:=hcells i x j c hx hj
    refine⟨Yb h1,by rw[h1];rfl,h4,h3⟩
   ·intro i x j c hx hj
    obtain⟨v,h1,h2,h3,h4⟩:=hcells i x j c hx hj
    simpa only[h1,Option.getD_some]using h2
  ·rfl
theorem Qg {S:List TypeId} (hS:Oy P S=true):∀(fuel:Nat) (t:TypeId) (cs:List Value) (x:DataW H×List MemPlace),S.contains t=true→DataW.trod enc P w 0 (fun _=>true) true fuel t cs=some x→Fits P t x.1→∃as,BF P fuel t as∧Stand w as cs
 |0,_,_,_,_,h,_=>by cases h
 |fuel+1,t,cs,x,hmem,hx,hwt=>by
  have ih:=Qg hS fuel
  have ht:=KY hS hmem
  simp only[LV]at ht
  cases hu:P.underlying t with
  |none=>rw[hu]at ht;cases ht
  |some k=>
   rw[hu]at ht
   cases k with
   |bool=>
    unfold DataW.trod at hx
    rw[hu]at hx
    rcases cs with _|⟨c,_|⟨c',r⟩⟩<;>(try cases c)<;>simp at hx
    rename_i b
    exact⟨[.bool b],by simp only[BF,hu];exact⟨b,rfl⟩,Ii (.bool b) rfl rfl⟩
   |int k=>
    unfold DataW.trod at hx
    rw[hu]at hx
    rcases cs with _|⟨c,_|⟨c',r⟩⟩<;>(try cases c)<;>simp at hx
    rename_i k' n
    obtain⟨⟨rfl,hw⟩,_⟩:=hx
    exact⟨[.int k' n],by simp only[BF,hu];exact⟨n,rfl,hw⟩,Ii (.int k' n) rfl rfl⟩
   |string=>
    unfold DataW.trod at hx
    rw[hu]at hx
    rcases cs with _|⟨c,_|⟨c',r⟩⟩<;>(try cases c)<;>simp at hx
    rename_i s
    obtain⟨hs,_⟩:=hx
    exact⟨[.str s.data.toList],by simp only[BF,hu];exact⟨_,rfl,by simpa using hs⟩,Ii (.str s _ rfl) rfl rfl⟩
   |slice e=>
    simp only[Bool.and_eq_true,beq_iff_eq]at ht
    obtain⟨hc,ht⟩:=ht
    have hpos:=Abx (KY hS ht)
    unfold DataW.trod at hx
    rw[hu]at hx
    rcases cs with _|⟨c,_|⟨c',r⟩⟩<;>(try cases c)<;>(try (simp at hx;done))
    rename_i ao len cap
    cases ao with
    |none=>
     rcases len with _|len<;>rcases cap with _|cap<;>(try (simp at hx;done))
     exact⟨[.sl false []],by simp only[BF,hu];simp,Ii .EI rfl rfl⟩
    |some a=>
     simp only at hx
     split at hx
     ·rename_i hb
      rw[Option.bind_eq_some_iff]at hx
      obtain⟨elems,h1,h2⟩:=hx
      simp only[if_true,Option.map_eq_some_iff]at h2
      obtain⟨rest,h2,hxe⟩:=h2
      subst hxe
      have hw0:=hwt
      unfold Fits at hwt
      simp only[DataW.weights,hu,List.all_cons,List.all_append,Bool.and_eq_true,decide_eq_true_eq,List.length_map]at hwt
      have hel:=(Jz h1).1
      rw[List.length_range]at hel
      have h0:0<cap→∃x,(w.cells? 0 (a.add (0*P.cellsOf e)) (P.cellsOf e)).bind (DataW.trod enc P w 0 (fun _=>true) true fuel e)=some x:=by
          intro hcap
          rcases Nat.eq_zero_or_pos len with hl|hl
          ·subst hl
           obtain⟨y,_,hy⟩:=(Jz h2).2 0 0 (by simp[hcap])
           exact⟨y,hy⟩
          ·obtain⟨y,_,hy⟩:=(Jz h1).2 0 0 (by simp[hl])
           exact⟨y,hy⟩
      obtain⟨as,k1,k2⟩:=Yc hpos (fun cs x h=>ih e cs x ht h) hb.2.1 hb.2.2 h1 hwt.2.1 (Nat.le_trans (Nat.mul_le_mul_right _ (by omega)) hwt.1) h0
      exact⟨as,by simp only[BF,hu];exact k1,k2⟩
     ·cases hx
   |struct fs=>
    simp only[Bool.and_eq_true,beq_iff_eq,decide_eq_true_eq]at ht
    obtain⟨hpos,hok⟩:=ht
    have hx:(if cs.length=P.cellsOf t then(fs.toList.mapM fun f=>DataW.trod enc P w 0 (fun _=>true) true fuel f.type ((cs.drop f.offset).take (P.cellsOf f.type))).map fun xs=>(DataW.agg (xs.map (·.1)),xs.flatMap (·.2))else none)=some x:=by
     unfold DataW.trod at hx
     rw[hu]at hx
     rcases cs with _|⟨c,_|⟨c',r⟩⟩<;>(try cases c)<;>exact hx
    split at hx
    ·rename_i hl
     simp only[Option.map_eq_some_iff]at hx
     obtain⟨xs,h1,hxe⟩:=hx
     subst hxe
     have hwe:FU P (fs.toList.map (·.type)) (xs.map (·.1)):=by
      unfold Fits at hwt
      simp only[DataW.weights,hu]at hwt
      exact hwt
     obtain⟨_,as,h2,h3⟩:=Ko (ok:=fun t=>S.contains t) (fun t cs x ht hx=>ih t cs x ht hx) cs fs.toList 0 _ xs hok h1 (by omega) hwe
     simp only[List.drop_zero,Nat.sub_zero,←hl,List.take_length]at h2
     refine⟨as,?_,h2⟩
     simp only[BF,hu]
     exact⟨by rw[h2.1,hl],fun f hf=>by simpa using(h3 f hf).2.2⟩
    ·cases hx
   |array n e=>
    simp only[Bool.and_eq_true,beq_iff_eq,decide_eq_true_eq]at ht
    obtain⟨hpos,hmem,hce⟩:=ht
    have hx:(if cs.length=P.cellsOf t then((List.range n).mapM fun i=>DataW.trod enc P w 0 (fun _=>true) true fuel e ((cs.drop (i*P.cellsOf e)).take (P.cellsOf e))).map fun xs=>(DataW.agg (xs.map (·.1)),xs.flatMap (·.2))else none)=some x:=by
     unfold DataW.trod at hx
     rw[hu]at hx
     rcases cs with _|⟨c,_|⟨c',r⟩⟩<;>(try cases c)<;>exact hx
    split at hx
    ·rename_i hl
     simp only[Option.map_eq_some_iff]at hx
     obtain⟨xs,h1,hxe⟩:=hx
     subst hxe
     have hwe:Ls P e (xs.map (·.1)):=by
      unfold Fits at hwt
      simp only[DataW.weights,hu]at hwt
      exact hwt
     have h1':(Uo e (P.cellsOf e) 0 n).mapM (fun f=>DataW.trod enc P w 0 (fun _=>true) true fuel f.type ((cs.drop f.offset).take (P.cellsOf f.type)))=some xs:=by
      rw[← h1,List.range_eq_range']
      exact U9 (e:=e) (fun t o=>DataW.trod enc P w 0 (fun _=>true) true fuel t ((cs.drop o).take (P.cellsOf t))) n 0
     have hok:=Aaq (P:=P) (ok:=fun t=>S.contains t) hmem n 0
     rw[Nat.zero_mul,Nat.zero_add]at hok
     obtain⟨_,as,h2,h3⟩:=Ko (ok:=fun t=>S.contains t) (fun t cs x ht hx=>ih t cs x ht hx) cs _ 0 _ xs hok h1' (by omega) (by rw[TY];exact hwe.each n)
     simp only[List.drop_zero,Nat.sub_zero,←hce,←hl,List.take_length]at h2
     refine⟨as,?_,h2⟩
     simp only[BF,hu]
     refine⟨by rw[h2.1,hl],fun i hi=>?_⟩
     obtain⟨f,f1,f2,f3⟩:=Ya (e:=e) (ce:=P.cellsOf e) n 0 i hi
     have:=(h3 f f1).2.2
     rw[f2,f3,Nat.zero_add,Nat.sub_zero]at this
     exact this
    ·cases hx
   |_=>cases ht
end
section
open Go.RowKit Go.ChangeShapes Go.WideShapes Go.ChangeAt
variable {P:Program} {w:World} {H:Type} {enc:TypeId×Value→H}
def Like (P:Program) (t:TypeId) (a:AV):Prop:=∃d,like P d t a
def likes (P:Program):List TypeId→List AV→Prop
 |[],[]=>True
 |t::ts,a::as=>Like P t a∧likes P ts as
 |_,_=>False
theorem Ui {n:Nat} {e:TypeId} {r:Reach} {base:Nat} {t:TypeId} {v:Value} (ht:P.underlying t=some (.array n e)) (h:Value.okWide P w r base t v):∃cs,v=.agg cs∧cs.size=P.cellsOf t:=by
 unfold Value.okWide at h
 rw[ht]at h
 obtain⟨cs,h1,h2,_⟩:=h
 exact⟨cs,h1,h2⟩
theorem AaZ {S:List TypeId} (hS:Oy P S=true) {t:TypeId} {v:Value} {base:Nat} {dd:DataW H} {p:List MemPlace} (ht0:S.contains t=true) (hv:Value.okWide P w .any base t v) (h:DataW.Trod enc P w 0 (fun _=>true) true t v dd p) (hwt:Fits P t dd):
 ∃a,Like P t a∧Rep w (fun b _=>b<w.heap.size) (fun _=>.nil) 0 a v:=by
 obtain⟨fuel,h⟩:=h
 obtain⟨as,h1,h2⟩:=Qg hS fuel t _ _ ht0 h hwt
 have ht:=KY hS ht0
 refine⟨pack P t as,⟨fuel,as,h1,rfl⟩,?_⟩
 have one:∀v:Value,v.cells=#[v]→(v.cells.toList=v.cells.toList→True)→Stand w as v.cells.toList→pack P t as=as.getD 0 .junk→Rep w (fun b _=>b<w.heap.size) (fun _=>.nil) 0 (pack P t as) v:=by
  intro v hc _ hs hp
  rw[hp]
  rw[hc]at hs
  obtain⟨hl,hs⟩:=hs
  obtain⟨c,rfl⟩:∃c,as=[c]:=List.length_eq_one_iff.1 (by simpa using hl)
  obtain⟨v',h3,h4,_⟩:=hs 0 c rfl
  simp at h3
  subst h3
  exact h4
 simp only[LV]at ht
 cases hu:P.underlying t with
 |none=>rw[hu]at ht;cases ht
 |some k=>
  rw[hu]at ht
  cases k with
  |bool=>
   obtain⟨b,rfl⟩:=okWide_bool hu hv
   exact one _ rfl (fun _=>trivial) h2 (by unfold pack;rw[hu])
  |int k=>
   obtain⟨b,rfl⟩:=okWide_int hu hv
   exact one _ rfl (fun _=>trivial) h2 (by unfold pack;rw[hu])
  |string=>
   obtain⟨b,rfl⟩:=okWide_string hu hv
   exact one _ rfl (fun _=>trivial) h2 (by unfold pack;rw[hu])
  |slice e=>
   obtain⟨a,l,c,rfl⟩:=okWide_slice hu hv
   exact one _ rfl (fun _=>trivial) h2 (by unfold pack;rw[hu])
  |struct fs=>
   obtain⟨cs,rfl,hcs⟩:=okWide_struct hu hv
   have hp:pack P t as=.agg as:=by unfold pack;rw[hu]
   rw[hp]
   have hcells:(Value.agg cs).cells=cs:=rfl
   rw[hcells]at h2
   refine .agg as cs (by simpa using h2.1) (fun i c hi=>?_) (fun i c hi=>?_)
   ·obtain⟨v,_,_,h5,_⟩:=h2.2 i c hi
    exact h5
   ·obtain⟨v,h4,h5,_⟩:=h2.2 i c hi
    rw[Array.getD_eq_getD_getElem?,←Array.getElem?_toList,h4]
    exact h5
  |array n e=>
   obtain⟨cs,rfl,hcs⟩:=Ui hu hv
   have hp:pack P t as=.agg as:=by unfold pack;rw[hu]
   rw[hp]
   have hcells:(Value.agg cs).cells=cs:=rfl
   rw[hcells]at h2
   refine .agg as cs (by simpa using h2.1) (fun i c hi=>?_) (fun i c hi=>?_)
   ·obtain⟨v,_,_,h5,_⟩:=h2.2 i c hi
    exact h5
   ·obtain⟨v,h4,h5,_⟩:=h2.2 i c hi
    rw[Array.getD_eq_getD_getElem?,←Array.getElem?_toList,h4]
    exact h5
  |_=>cases ht
theorem RZ {S:List TypeId} (hS:Oy P S=true) {base:Nat}:∀{ts:List TypeId} {vs:List Value} {ds:List (DataW H)} {p:List MemPlace},(∀ t∈ts,S.contains t=true)→(∀ (j:Nat) t v,ts[j]?=some t→vs[j]?=some v→Value.okWide P w .any base t v)→
 DataW.TrodAll enc P w 0 (fun _=>true) true ts vs ds p→FU P ts ds→
 ∃as,likes P ts as∧as.length=vs.length∧ds.length=ts.length∧∀(i:Nat) (a:AV),as[i]?=some a→∃v,vs[i]?=some v∧Rep w (fun b _=>b<w.heap.size) (fun _=>.nil) 0 a v
 |[],vs,ds,p,_,_,h,_=>by
  obtain⟨rfl,rfl,rfl⟩:=trodAll_nil h
  exact⟨[],trivial,rfl,rfl,fun i a h=>by simp at h⟩
 |t::ts,vs,ds,p,ht,hv,h,hwt=>by
  obtain⟨v,vs',dd,ds',p',q,rfl,rfl,rfl,h1,h2⟩:=trodAll_cons h
  obtain⟨a,k1,k2⟩:=AaZ hS (ht t (by simp)) (hv 0 t v rfl rfl) h1 hwt.cons.1
  obtain⟨as,k3,k4,k5,k6⟩:=RZ hS (fun t h=>ht t (by simp[h])) (fun j t v h1 h2=>hv (j+1) t v (by simpa using h1) (by simpa using h2)) h2 hwt.cons.2
  refine⟨a::as,⟨k1,k3⟩,by simp[k4],by simp[k5],fun i a' hi=>?_⟩
  cases i with
  |zero=>simp at hi;subst hi;exact⟨v,rfl,k2⟩
  |succ i=>exact k6 i a' (by simpa using hi)
theorem ML (hl:laidOutB P=true) {w':World} (hb:Below w.heap.size w w'):∀{ts:List TypeId} {vs:List Value} {ds:List (DataW H)} {p:List MemPlace},(∀ t∈ts,P.readableRec t=true∧t<P.types.size)→
 DataW.TrodAll enc P w 0 (fun _=>true) true ts vs ds p→DataW.TrodAll enc P w' 0 (fun b=>decide (b<w.heap.size)) true ts vs ds p
 |[],vs,ds,p,_,h=>by
  obtain⟨rfl,rfl,rfl⟩:=trodAll_nil h
  exact trodAll_mk0
 |t::ts,vs,ds,p,ht,h=>by
  obtain⟨v,vs',dd,ds',p',q,rfl,rfl,rfl,h1,h2⟩:=trodAll_cons h
  have k1:=h1
  have hlt:∀x∈p',x.block<w.heap.size:=by obtain⟨m,hm⟩:=k1;exact DataW.trod_lt m _ _ _ hm
  exact trodAll_cons_mk (Below.trod hl (ht t (by simp)).1 (ht t (by simp)).2 h1 hb hlt) (ML hl hb (fun t h=>ht t (by simp[h])) h2)
theorem Aau {AP:Nat→Option Hf} (hs:∀n,Ar P (run AP n)) {f:Nat} (hf0:Agn P f) {fn:Func} (S:List TypeId) (hS:Oy P S=true) (s:ChangeSpec) (hvars:s.vars=[])
 (hfn:∀(ds:List (DataW H)),ds.length=fn.params.size→s.fn H ds={results:=[.lit (.bool true)],args:=ds}) {tb:TypeId} (hres:fn.resultTypes=#[tb]) (Aig:P.underlying tb=some .bool)
 (hl:laidOutB P=true) (Aih:∀t∈fn.params.toList,S.contains t=true) (hread:∀t∈fn.params.toList,P.readableRec t=true∧t<P.types.size)
 {base:Nat} {args:Array Value} {ds gs:List (DataW H)} {before:List MemPlace}
 (hval:∀(j:Nat) t v,fn.params[j]?=some t→args[j]?=some v→Value.okWide P w .any base t v)
 (hW:DataW.Whole enc P fn.params.toList s.vars false w args.toList ds gs before) (hfit:FU P fn.params.toList ds)
 (Akz:∀as,likes P fn.params.toList as→DC AP f as ⟨[],0⟩ fun out _=>out=.ok (.bool true)):
 Calls P f args w fun e w'=>∃v,e=.returned v∧s.post enc P fn false true false false w args v w':=by
 have hW0:=hW
 obtain⟨p,q,hA,hV,rfl,hfz,hnd⟩:=hW
 rw[hvars]at hV
 obtain⟨rfl,rfl⟩:=trodVars_none hV
 obtain⟨as,h1,h2,h3,h4⟩:=RZ hS (vs:=args.toList) Aih (fun j t v h1 h2=>hval j t v (by simpa using h1) (by simpa using h2)) hA hfit
 obtain⟨N,out,s',h5,rfl⟩:=Akz as h1
 have h6:=(hs N) f as ⟨[],0⟩ _ s' h5 w w.heap.size (fun b _=>b<w.heap.size) (fun _=>.nil) w args
  ⟨Below.refl _ _,Nat.le_refl _,fun o ob h=>by simp at h,fun o o' ob ob' g g' b e n e' n' h=>by simp at h,fun b i h=>h⟩
  ⟨by simpa using h2,fun i a hi=>by
   obtain⟨v,k1,k2⟩:=h4 i a hi
   exact⟨v,by simpa using k1,k2⟩⟩
 replace h6:=h6.resolve_right fun⟨x,hx,_⟩=>by rw[Oz hf0]at hx;cases hx
 refine Calls.mono h6.2 fun e w' ⟨Z',φ',hI,_,x,he,hx⟩=>?_
 subst he
 cases hx
 have bel:=hI.below
 have hf:=hfn ds (by rw[h3];simp)
 refine⟨_,rfl,ds,[],_,[],p,[],hW0,?_,?_,?_,bel.frame _,fun h=>by cases h⟩
 ·rw[List.append_nil,hf,hres]
  exact trodAll_mk1 (shut_bool Aig _)
 ·rw[List.append_nil,hf]
  exact ML hl bel hread hA
 ·rw[hvars,List.append_nil,hf]
  exact rfl
end
section
open Go.RowKit
variable {P:Program}
theorem Aaw {d:Nat} {t:TypeId} {k:IntKind} {cs:List AV} (hu:P.underlying t=some (.int k)) (h:BF P d t cs):∃n,cs=[.int k n]∧(Lit.int k n).wf=true:=by
 cases d with
 |zero=>cases h
 |succ d=>simp only[BF,hu]at h;exact h
theorem NU {d:Nat} {t:TypeId} {cs:List AV} (hu:P.underlying t=some .string) (h:BF P d t cs):∃l,cs=[.str l]∧l.length≤maxLen:=by
 cases d with
 |zero=>cases h
 |succ d=>simp only[BF,hu]at h;exact h
theorem KF {d:Nat} {t e:TypeId} {cs:List AV} (hu:P.underlying t=some (.slice e)) (h:BF P d t cs):∃d',d=d'+1∧∃nn xs,cs=[.sl nn xs]∧(nn=false→xs=[])∧xs.length≤maxLen∧∀x∈xs,like P d' e x:=by
 cases d with
 |zero=>cases h
 |succ d=>
  refine⟨d,rfl,?_⟩
  simp only[BF,hu]at h
  rcases h with rfl|⟨xs,rfl,h1,h2,_⟩
  ·exact⟨false,[],rfl,fun _=>rfl,Nat.zero_le _,fun x hx=>by simp at hx⟩
  ·exact⟨true,xs,rfl,(fun h=>(by cases h)),h1,h2⟩
theorem FY {d:Nat} {t:TypeId} {fs:Array Field} {cs:List AV} (hu:P.underlying t=some (.struct fs)) (h:BF P d t cs):∃d',d=d'+1∧cs.length=P.cellsOf t∧∀f∈fs.toList,BF P d' f.type ((cs.drop f.offset).take (P.cellsOf f.type)):=by
 cases d with
 |zero=>cases h
 |succ d=>simp only[BF,hu]at h;exact⟨d,rfl,h⟩
theorem GI {d:Nat} {t:TypeId} {fs:Array Field} {a:AV} (hu:P.underlying t=some (.struct fs)) (h:like P d t a):∃cs,a=.agg cs∧BF P d t cs:=by
 obtain⟨cs,h1,rfl⟩:=h
 exact⟨cs,by simp only[pack,hu],h1⟩
theorem P6 {d:Nat} {t:TypeId} {a:AV} (hu:P.underlying t=some .string) (h:like P d t a):∃l,a=.str l∧l.length≤maxLen:=by
 obtain⟨cs,h1,rfl⟩:=h
 obtain⟨n,rfl,h2⟩:=NU hu h1
 exact⟨n,by simp[pack,hu],h2⟩
theorem Yo {d:Nat} {t e:TypeId} {a:AV} (hu:P.underlying t=some (.slice e)) (h:like P d t a):∃d',d=d'+1∧∃nn xs,a=.sl nn xs∧(nn=false→xs=[])∧xs.length≤maxLen∧∀x∈xs,like P d' e x:=by
 obtain⟨cs,h1,rfl⟩:=h
 obtain⟨d',rfl,nn,xs,rfl,h2⟩:=KF hu h1
 exact⟨d',rfl,nn,xs,by simp[pack,hu],h2⟩
theorem MZ {α:Type} {f:α→AV} {Q:α→Prop}:∀{xs:List AV},(∀ x∈xs,∃y,x=f y∧Q y)→∃ys:List α,xs=ys.map f∧∀y∈ys,Q y
 |[],_=>⟨[],rfl,fun y h=>by simp at h⟩
 |x::xs,h=>by
  obtain⟨y,rfl,hy⟩:=h _ (List.mem_cons_self ..)
  obtain⟨ys,rfl,hys⟩:=MZ fun x hx=>h x (List.mem_cons_of_mem _ hx)
  exact⟨y::ys,rfl,fun z hz=>(List.mem_cons.1 hz).elim (fun e=>e▸hy) (hys z)⟩
theorem AbM {α:Type} {f:α→AV} {Q:α→Prop} {d:Nat} {t e:TypeId} {a:AV} (hu:P.underlying t=some (.slice e)) (he:∀d x,like P d e x→∃y,x=f y∧Q y) (h:like P d t a):
 ∃nn l,a=.sl nn (l.map f)∧(nn=false→l=[])∧l.length≤maxLen∧∀y∈l,Q y:=by
 obtain⟨d',rfl,nn,xs,rfl,h0,h1,h2⟩:=Yo hu h
 obtain⟨l,rfl,h3⟩:=MZ (f:=f) (Q:=Q) fun x hx=>he d' x (h2 x hx)
 exact⟨nn,l,rfl,fun h=>by have:=h0 h;simpa using this,by simpa using h1,h3⟩
theorem Aax:maxLen<2 ^ 63:=by decide
end
section
variable {α:Type} {f:α→AV}
theorem Rh {es:Nat} (hf:∀x,(f x).cells.length=es) (l:List α):Bq es (vs f l):=by
 intro y hy
 simp only[vs,List.mem_map]at hy
 obtain⟨z,_,rfl⟩:=hy
 exact hf z
theorem Vb {es g len:Nat} {nn cl:Bool} {l:List α} {x:α} {bytes:Nat} {K:Nat→Bool→Bool→List AV→Prop} (hf:∀x,(f x).cells.length=es) (hl:len=l.length) (hr:(l.length+1)*bytes≤2 ^ 46) (h:K (l.length+1) true cl (vs f (l++[x]))):
 LG g g es es len nn cl true (vs f l) [f x] bytes K:=by
 subst hl
 refine⟨⟨rfl,rfl,by simp,by intro y hy;simp at hy;subst hy;exact hf x,Kz hr⟩,?_⟩
 have e1:(nn||!([f x]:List AV).isEmpty)=true:=by simp
 have e2:(cl&&true)=cl:=by simp
 rw[e1,e2,Zn]
 exact h
theorem AjQ {es g len:Nat} {cl:Bool} {l l':List α} {ys:List AV} {bytes:Nat} {K:Nat→Bool→Bool→List AV→Prop} (he:ys=vs f l') (hf:∀x,(f x).cells.length=es) (hl:len=l.length) (hr:(l.length+l'.length)*bytes≤2 ^ 46) (h:K (l.length+l'.length) true cl (vs f (l++l'))):
 LG g g es es len true cl true (vs f l) ys bytes K:=by
 subst hl he
 refine⟨⟨rfl,rfl,by simp,Rh hf l',by rw[lV];exact Kz hr⟩,?_⟩
 rw[lV,Bool.and_true,List.take_of_length_le (by simp),Bool.true_or]
 simpa[vs]using h
end
end AI
end Go.Proofs.YtiimoiecghmebaaDoor
