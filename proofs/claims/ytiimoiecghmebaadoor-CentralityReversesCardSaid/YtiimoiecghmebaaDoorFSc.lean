/- Soundness, eleventh part: maps. Soundness, twelfth part: values that leave a call; the modes of a call. Soundness, thirteenth part: one operation. -/
import Derived.Test.YtiimoiecghmebaaDoorFSb
namespace Go.Proofs.YtiimoiecghmebaaDoor
namespace AI
open Go.RowKit
variable {P:Program} {B:Nat} {w w' w0:World} {Z Z':Bh} {φ φ':D8} {ctr BX:Nat} {s s':Ag}
def Fe (w:World) (Z:Bh) (φ:D8) (ctr:Nat) (cl:Bool) (ents:List (AV×AV)) (es:Array MapEntry):Prop:=
 es.size=ents.length∧∀(i:Nat) (e:AV×AV),ents[i]?=some e→∃e',es[i]?=some e'∧Rep w Z φ ctr e.1 e'.key∧Rep w Z φ ctr e.2 e'.val∧e.2.storable=true∧(cl=true→e.2.closed=true)
theorem Fe.later (hL:Later B w Z φ ctr w' Z' φ' BX) {cl:Bool} {ents:List (AV×AV)} {es:Array MapEntry} (h:Fe w Z φ ctr cl ents es):Fe w' Z' φ' BX cl ents es:=
 ⟨h.1,fun i e he=>by obtain⟨e',a,b,c,d⟩:=h.2 i e he;exact⟨e',a,b.later hL,c.later hL,d⟩⟩
theorem Mc (hI:Inv w0 B s Z φ w) {o g:Nat} {cl:Bool} {ents:List (AV×AV)} (ho:s.σ[o]?=some (.mp g cl ents)) {v:Value} (hr:Rep w Z φ s.ctr (.map o g) v):
 ∃b e n es clock,v=.map (some b)∧φ g=.row b e n∧B≤b∧w.heap[b]?=some (.map es clock)∧Fe w Z φ s.ctr cl ents es:=by
 obtain⟨_,b',e',n',h3,h4,es,clock,h5,h6,h7⟩:=hI.objs o _ ho
 cases hr with
 |map _ _ b e n hg hφ=>
  rw[hφ]at h3
  simp only[NQ.row.injEq]at h3
  obtain⟨rfl,_⟩:=h3
  exact⟨b,e,n,es,clock,rfl,hφ,h4,h5,h6.1.1,h7⟩
theorem H8 (hI:Inv w0 B s Z φ w) {o g:Nat} {cl:Bool} {ents:List (AV×AV)} (ho:s.σ[o]?=some (.mp g cl ents)) {b e n:Nat} (hφ:φ g=.row b e n) {es:Array MapEntry} {clock:Nat} (hb:w.heap[b]?=some (.map es clock)):Yh es clock:=by
 obtain⟨_,b',e',n',h3,h4,es',clock',h5,h6,h7⟩:=hI.objs o _ ho
 rw[hφ]at h3
 simp only[NQ.row.injEq]at h3
 obtain⟨rfl,_⟩:=h3
 rw[hb]at h5
 cases h5
 exact h6.1.2
theorem X6 (hI:Inv w0 B s Z φ w) {o g:Nat} {cl:Bool} {ents:List (AV×AV)} (ho:s.σ[o]?=some (.mp g cl ents)) {b e n:Nat} (hφ:φ g=.row b e n) (i:Nat):¬Z b i:=by
 obtain⟨_,b',e',n',h3,h4,es',clock',h5,h6,h7⟩:=hI.objs o _ ho
 rw[hφ]at h3
 simp only[NQ.row.injEq]at h3
 obtain⟨rfl,_⟩:=h3
 exact h6.2 i
theorem NI {es:Array MapEntry} {clock:Nat} (h:Yh es clock) (i:Nat) (f:MapEntry→MapEntry) (hb:∀e,(f e).born=e.born):Yh (es.modify i f) clock:=by
 have hborn:(es.modify i f).toList.map (·.born)=es.toList.map (·.born):=by
  apply List.ext_getElem?
  intro j
  simp only[List.getElem?_map,Array.getElem?_toList,Array.getElem?_modify]
  by_cases hij:i=j
  ·subst hij
   cases he:es[i]? with
   |none=>simp
   |some e=>simp[hb e]
  ·simp[hij]
 unfold Yh
 rw[hborn]
 exact h
theorem TD {es:Array MapEntry} {clock:Nat} (h:Yh es clock) {key val:Value}:Yh (es.push {key,val,born:=clock}) (clock+1):=by
 unfold Yh
 rw[Array.toList_push,List.map_append]
 refine⟨List.nodup_append.2 ⟨h.1,by simp,fun a ha b hb=>?_⟩,fun x hx=>?_⟩
 ·have:=h.2 a ha
  simp at hb
  omega
 ·rcases List.mem_append.1 hx with hx|hx
  ·have:=h.2 x hx;omega
  ·simp at hx;omega
theorem Abl {es:Array MapEntry} {clock:Nat} (h:Yh es clock) (i:Nat):Yh (es.eraseIdxIfInBounds i) clock:=by
 have hs:(es.eraseIdxIfInBounds i).toList.Sublist es.toList:=by
  unfold Array.eraseIdxIfInBounds
  split
  ·simp only[Array.toList_eraseIdx];exact List.eraseIdx_sublist _ _
  ·exact List.Sublist.refl _
 exact⟨(hs.map _).nodup h.1,fun x hx=>h.2 x ((hs.map _).subset hx)⟩
theorem AeS:Yh #[] 0:=⟨by simp,by simp⟩
theorem run_checkKey {kt:TypeId} {l:IQ} (h:EJ P kt=some l) {k:AV} (hk:IW l k=true) {v:Value} (hr:Rep w Z φ ctr k v) (e:Bool) (n:Nat):(Instr.checkKey e (n+1) kt v).run P w=.ok () w:=by
 rcases Gu h with⟨rfl,hu⟩|⟨rfl,i,hu⟩|⟨rfl,hu⟩<;>cases k<;>simp[IW]at hk<;>cases hr<;>simp[Instr.checkKey,run_underlying hu]
theorem X7 {kt:TypeId} {l:IQ} {d:TypeDesc} (h:EJ P kt=some l) (hu:P.underlying kt=some d) {x y:AV} {vx vy:Value} (hx:Rep w Z φ ctr x vx) (hy:Rep w Z φ ctr y vy) {b:Bool} (hb:Cb l x y=some b):Instr.sameNow d vx vy=some b:=by
 rcases Gu h with⟨rfl,hu'⟩|⟨rfl,i,hu'⟩|⟨rfl,hu'⟩<;>rw[hu]at hu'<;>cases hu'<;>cases x<;>cases y<;>simp only[Cb,Option.some.injEq,reduceCtorEq]at hb
 ·cases hx;cases hy
  simp[Instr.sameNow,hb]
 ·split at hb
  ·rename_i hk;subst hk
   simp only[Option.some.injEq]at hb
   cases hx;cases hy
   simp[Instr.sameNow,hb]
  ·cases hb
 ·cases hx with
  |str s1 _ h1=>cases hy with
   |str s2 _ h2=>
    simp only[Instr.sameNow,Option.some.injEq]
    rw[beq_toListBytes,ByteArray.toList_eq,ByteArray.toList_eq,h1,h2,hb]
theorem Qr {kt:TypeId} {l:IQ} {d:TypeDesc} (h:EJ P kt=some l) (hu:P.underlying kt=some d) {k:AV} {vk:Value} (hk:Rep w Z φ ctr k vk):∀{ents:List (AV×AV)} {es:List MapEntry} {i:Nat} {r:Option (Nat×AV)},
 ents.length=es.length→(∀ (j:Nat) (e:AV×AV),ents[j]?=some e→∃e',es[j]?=some e'∧Rep w Z φ ctr e.1 e'.key)→findKey l k ents i=some r→
 (r=none∧Instr.findNow d vk es i=some none)∨∃j v e',r=some (i+j,v)∧ents[j]?=some (((ents[j]?).getD default).1,v)∧es[j]?=some e'∧Instr.findNow d vk es i=some (some (i+j,e'.val))∧Cb l k (((ents[j]?).getD default).1)=some true
 |[],[],i,r,_,_,hf=>by
  simp only[findKey,Option.some.injEq]at hf
  exact .inl ⟨hf.symm,rfl⟩
 |[],_::_,_,_,hl,_,_=>by simp at hl
 |_::_,[],_,_,hl,_,_=>by simp at hl
 |(k',v)::ents,e::es,i,r,hl,he,hf=>by
  obtain⟨e0,h1,h2⟩:=he 0 (k',v) rfl
  simp only[List.getElem?_cons_zero,Option.some.injEq]at h1
  subst h1
  simp only[findKey]at hf
  cases hb:Cb l k k' with
  |none=>simp[hb]at hf
  |some b=>
   have hs:=X7 h hu hk h2 hb
   cases b with
   |true=>
    simp only[hb,Option.some.injEq]at hf
    refine .inr ⟨0,v,e,hf.symm,rfl,rfl,?_,hb⟩
    simp[Instr.findNow,hs]
   |false=>
    simp only[hb]at hf
    have ih:=Qr h hu hk (ents:=ents) (es:=es) (i:=i+1) (by simpa using hl) (fun j e hj=>by simpa using he (j+1) e (by simpa using hj)) hf
    rcases ih with⟨ha,hb'⟩|⟨j,v',e',ha,hb',hc,hd,hq⟩
    ·exact .inl ⟨ha,by simp[Instr.findNow,hs,hb']⟩
    ·refine .inr ⟨j+1,v',e',by rw[ha];congr 2;omega,by simpa using hb',by simpa using hc,?_,by simpa using hq⟩
     simp only[Instr.findNow,hs,hd]
     congr 3;omega
theorem run_findKey {kt:TypeId} {l:IQ} (h:EJ P kt=some l) {k:AV} {vk:Value} (hk:Rep w Z φ ctr k vk) {cl:Bool} {ents:List (AV×AV)} {es:Array MapEntry} (he:Fe w Z φ ctr cl ents es) {r:Option (Nat×AV)} (hf:findKey l k ents 0=some r):
 (r=none∧(Instr.findKey kt vk es.toList).run P w=.ok none w)∨∃j k' v e',r=some (j,v)∧ents[j]?=some (k',v)∧es[j]?=some e'∧(Instr.findKey kt vk es.toList).run P w=.ok (some (j,e'.val)) w∧Cb l k k'=some true:=by
 have hd:∃d,P.underlying kt=some d:=by
  rcases Gu h with⟨_,hu⟩|⟨_,i,hu⟩|⟨_,hu⟩<;>exact⟨_,hu⟩
 obtain⟨d,hu⟩:=hd
 rcases Qr h hu hk (ents:=ents) (es:=es.toList) (by simpa using he.1.symm) (fun j e hj=>by obtain⟨e',a,b,_⟩:=he.2 j e hj;exact⟨e',by simpa using a,b⟩) hf with⟨ha,hb⟩|⟨j,v,e',ha,hb,hc,hd,hq⟩
 ·exact .inl ⟨ha,by simp[Instr.findKey,run_underlying hu,hb]⟩
 ·refine .inr ⟨j,_,v,e',by simpa using ha,hb,by simpa using hc,?_,hq⟩
  simp only[Instr.findKey,Sem.run_bind,run_underlying hu,Result.andThen_ok,hd,Nat.zero_add,Sem.run_pure]
theorem Dl {b:Nat} {es:Array MapEntry} {clock:Nat} (h:w.heap[b]?=some (.map es clock)):(getObj b).run P w=.ok (.map es clock) w:=by
 simp[getObj,Sem.run,h]
theorem Fq {b:Nat} {es:Array MapEntry} {clock:Nat} (h:w.heap[b]?=some (.map es clock)) (o:Go.Obj):(setObj b o).run P w=.ok () {w with heap:=w.heap.setIfInBounds b o}:=by
 simp[setObj,Sem.run,h]
theorem Zb (hI:Inv w0 B s Z φ w) {t kt e:TypeId} (hu:P.underlying t=some (.map kt e)) {l:IQ} (hl:EJ P kt=some l) {n:Nat} {z:AV} (hz:Et P e=some (n,z)) {m k v:AV} {vm vk:Value} (hm:Rep w Z φ s.ctr m vm) (hk:Rep w Z φ s.ctr k vk)
 {C:Aq} {env:Env} {am ak:AO} (h1:am.val env=m) (h2:ak.val env=k) {QH:Bool} (hev:Ae C (.lookup l z QH am ak) env s=some (.ok v,s')):
 ∃x,(Instr.lookup t vm vk QH).run P w=.ok x w∧Rep w Z φ s.ctr v x∧s'=s:=by
 obtain⟨ie,zv,hie,hn,h0,hzv,hov,hzl,hcT⟩:=D5 hz
 have hzr:=(Du (w:=w) (Z:=Z) (φ:=φ) (ctr:=s.ctr) hov).1
 have fin:∀(b:Bool) (x:AV) (vx:Value),Rep w Z φ s.ctr x vx→Rep w Z φ s.ctr (if QH then .Dy [x,.bool b]else x) (if QH then .tuple #[vx,.bool b]else vx):=by
  intro b x vx hx
  cases QH
  ·exact hx
  ·refine .Dy _ _ rfl (fun i c hi=>?_)
   rcases i with _|_|i
   ·simp only[List.getElem?_cons_zero,Option.some.injEq]at hi;subst hi;simpa using hx
   ·simp at hi;subst hi;simpa using Rep.bool b
   ·simp at hi
 simp only[Ae,h1,h2]at hev
 cases m with
 |Cj=>
  by_cases hko:IW l k=true
  ·simp only[hko,if_true,Option.some.injEq,Prod.mk.injEq,AL.ok.injEq,Option.isSome_none]at hev
   obtain⟨rfl,rfl⟩:=hev
   cases hm
   have hck:=run_checkKey (w:=w) (Z:=Z) (φ:=φ) (ctr:=s.ctr) hl hko hk true 9999
   have hfk:(Instr.findKey kt vk []).run P w=.ok none w:=by
        have hd:∃d,P.underlying kt=some d:=by
         rcases Gu hl with⟨_,hu⟩|⟨_,i,hu⟩|⟨_,hu⟩<;>exact⟨_,hu⟩
        obtain⟨d,hd⟩:=hd
        simp[Instr.findKey,run_underlying hd,Instr.findNow]
   refine⟨_,?_,fin false z zv hzr,rfl⟩
   simp only[Instr.lookup,Sem.run_bind,run_underlying hu,Result.andThen_ok,Sem.run_pure,Array.isEmpty_empty,hck,hfk,C9 hie hzv]
  ·simp[hko]at hev
 |fmap ents=>
  simp only at hev
  by_cases hko:IW l k=true
  ·simp only[hko,if_true]at hev
   cases hf:findKey l k ents 0 with
   |none=>simp[hf]at hev
   |some r=>
    simp only[hf,Option.some.injEq,Prod.mk.injEq,AL.ok.injEq]at hev
    obtain⟨rfl,rfl⟩:=hev
    cases hm with
    |fmap _ b es clock f hz' hb hst hn' hf' hk' hv'=>
     have he:Fe w Z φ s.ctr true ents es:=⟨hn',fun i e hi=>⟨f i,(hf' i e hi).1,hk' i e hi,hv' i e hi,(hf' i e hi).2.2.2,fun _=>(hf' i e hi).2.2.1⟩⟩
     have hck:=run_checkKey (w:=w) (Z:=Z) (φ:=φ) (ctr:=s.ctr) hl hko hk es.isEmpty 9999
     rcases run_findKey (P:=P) hl hk he hf with⟨rfl,hrun⟩|⟨j,k',x,e',rfl,hj,hj',hrun,_⟩
     ·refine⟨_,?_,fin false z zv hzr,rfl⟩
      simp only[Instr.lookup,Sem.run_bind,run_underlying hu,Result.andThen_ok,Dl hb,Sem.run_pure,hck,hrun,C9 hie hzv]
     ·obtain⟨e'',q1,q2,q3,_⟩:=he.2 j _ hj
      rw[hj']at q1
      cases q1
      refine⟨_,?_,fin true x e'.val q3,rfl⟩
      simp only[Instr.lookup,Sem.run_bind,run_underlying hu,Result.andThen_ok,Dl hb,Sem.run_pure,hck,hrun]
  ·simp[hko]at hev
 |map o g=>
  simp only at hev
  cases ho:nth s.σ o with
  |none=>simp[ho]at hev
  |some ob=>
   cases ob with
   |arr=>simp[ho]at hev
   |dead=>simp[ho]at hev
   |raw=>simp[ho]at hev
   |mp g' cl ents=>
    by_cases hc:g=g'∧IW l k=true
    ·obtain⟨rfl,hko⟩:=hc
     simp only[ho,hko,and_self,if_true]at hev
     cases hf:findKey l k ents 0 with
     |none=>simp[hf]at hev
     |some r=>
      simp only[hf,Option.some.injEq,Prod.mk.injEq,AL.ok.injEq]at hev
      obtain⟨rfl,rfl⟩:=hev
      rw[Aj]at ho
      obtain⟨b,_,_,es,clock,rfl,hφ,hB,hb,he⟩:=Mc hI ho hm
      have hck:=run_checkKey (w:=w) (Z:=Z) (φ:=φ) (ctr:=s.ctr) hl hko hk es.isEmpty 9999
      rcases run_findKey (P:=P) hl hk he hf with⟨rfl,hrun⟩|⟨j,k',x,e',rfl,hj,hj',hrun,_⟩
      ·refine⟨_,?_,fin false z zv hzr,rfl⟩
       simp only[Instr.lookup,Sem.run_bind,run_underlying hu,Result.andThen_ok,Dl hb,Sem.run_pure,hck,hrun,C9 hie hzv]
      ·obtain⟨e'',q1,q2,q3,_⟩:=he.2 j _ hj
       rw[hj']at q1
       cases q1
       refine⟨_,?_,fin true x e'.val q3,rfl⟩
       simp only[Instr.lookup,Sem.run_bind,run_underlying hu,Result.andThen_ok,Dl hb,Sem.run_pure,hck,hrun]
    ·simp[ho,hc]at hev
 |_=>simp at hev
theorem Inv.TF (hI:Inv w0 B s Z φ w) {o g:Nat} {cl cl':Bool} {ents ZO:List (AV×AV)} (ho:s.σ[o]?=some (.mp g cl ents)) {b e n:Nat} (hφ:φ g=.row b e n) {es es':Array MapEntry} {clock clock':Nat} (hb:w.heap[b]?=some (.map es clock)) (hB:B≤b)
 (he:Fe w Z φ s.ctr cl' ZO es') (hst:Yh es' clock'):
 Inv w0 B ⟨s.σ.set o (.mp g cl' ZO),s.ctr⟩ Z φ {w with heap:=w.heap.setIfInBounds b (.map es' clock')}∧Later B w Z φ s.ctr {w with heap:=w.heap.setIfInBounds b (.map es' clock')} Z φ s.ctr:=by
 have hblt:b<w.heap.size:=(Array.getElem?_eq_some_iff.1 hb).1
 have other:∀k,k≠b→(w.heap.setIfInBounds b (.map es' clock'))[k]?=w.heap[k]?:=fun k hk=>Array.getElem?_setIfInBounds_ne (Ne.symm hk)
 have hbel:Below B w {w with heap:=w.heap.setIfInBounds b (.map es' clock')}:=⟨rfl,rfl,rfl,by simp,fun k hk=>other k (by omega)⟩
 have hL:Later B w Z φ s.ctr {w with heap:=w.heap.setIfInBounds b (.map es' clock')} Z φ s.ctr:=by
  refine⟨fun _ _ h=>.inl h,Nat.le_refl _,fun _ _ h=>h,fun b' i hz=>?_,fun _ _=>rfl⟩
  by_cases hbb:b'=b
  ·subst hbb
   exact absurd hz (X6 hI ho hφ i)
  ·exact other b' hbb
 obtain⟨k1,_⟩:=hI.objs o _ ho
 refine⟨hI.set ho hbel hL (fun b' i h=>by simpa using hI.live b' i h) (fun o' ob' g' b' e' n' hne ho' hg' hφ'=>⟨other b' ?_,fun i h=>h⟩) ?_ (fun g' b' e' n' hg' hφ'=>?_),hL⟩
 ·rintro rfl
  exact hne (hI.apart o' o ob' _ g' g _ _ _ _ _ ho' ho hg' rfl hφ' hφ)
 ·have he':=he.later hL
  exact⟨k1,b,e,n,hφ,hB,es',clock',by simp[hblt],⟨⟨he'.1,hst⟩,X6 hI ho hφ⟩,he'.2⟩
 ·simp only[Obj.gen,Option.some.injEq]at hg'
  subst hg'
  rw[hφ]at hφ'
  simp only[NQ.row.injEq]at hφ'
  obtain⟨rfl,_⟩:=hφ'
  exact .inr ⟨g,e,n,rfl,hφ⟩
theorem OV {l:IQ} {k k':AV} {v v':Value} (hr:Rep w Z φ ctr k v) (hr':Rep w Z φ ctr k' v') (h:Cb l k k'=some true):Instr.sameBits 10000 v' v=true:=by
 cases l<;>cases k<;>cases k'<;>simp only[Cb,Option.some.injEq,reduceCtorEq]at h
 ·cases hr;cases hr'
  simp_all [Instr.sameBits]
 ·split at h
  ·rename_i hk;subst hk
   cases hr;cases hr'
   simp_all [Instr.sameBits]
  ·cases h
 ·cases hr with
  |str s1 _ h1=>cases hr' with
   |str s2 _ h2=>
    simp only[Instr.sameBits,beq_toListBytes,ByteArray.toList_eq,h1,h2]
    simpa using(by simpa using h:_=_).symm
theorem TG (hI:Inv w0 B s Z φ w) {t kt e:TypeId} (hu:P.underlying t=some (.map kt e)) {l:IQ} (hl:EJ P kt=some l) {m k x v:AV} {vm vk vx:Value} (hm:Rep w Z φ s.ctr m vm) (hk:Rep w Z φ s.ctr k vk) (hx:Rep w Z φ s.ctr x vx)
 {C:Aq} {env:Env} {am ak ax:AO} (h1:am.val env=m) (h2:ak.val env=k) (h3:ax.val env=x) (hev:Ae C (.mapset l am ak ax) env s=some (.ok v,s')):
 v=.undef∧∃w',(Instr.mapUpdate t vm vk vx).run P w=.ok () w'∧Inv w0 B s' Z φ w'∧Later B w Z φ s.ctr w' Z φ s'.ctr:=by
 simp only[Ae,h1,h2,h3]at hev
 split at hev
 ·rename_i o g
  split at hev
  ·rename_i g' cl ents ho
   split at hev
   ·rename_i hc
    obtain⟨rfl,hko,hst⟩:=hc
    rw[Aj]at ho
    obtain⟨b,e1,n1,es,clock,rfl,hφ,hB,hb,he⟩:=Mc hI ho hm
    have hck:=run_checkKey (w:=w) (Z:=Z) (φ:=φ) (ctr:=s.ctr) hl hko hk false 9999
    split at hev
    ·rename_i i y hf
     simp only[Option.some.injEq,Prod.mk.injEq,AL.ok.injEq]at hev
     obtain⟨rfl,rfl⟩:=hev
     rcases run_findKey (P:=P) hl hk he hf with⟨h,_⟩|⟨j,k',y',e',h,hj,hj',hrun,hq⟩
     ·cases h
     ·simp only[Option.some.injEq,Prod.mk.injEq]at h
      obtain⟨rfl,rfl⟩:=h
      obtain⟨e'',q1,q2,q3,q4,q5⟩:=he.2 i _ hj
      rw[hj']at q1
      cases q1
      have hsb:=OV hk q2 hq
      have hE:Fe w Z φ s.ctr (cl&&x.closed) (ents.set i (k,x)) (es.modify i fun e=>{e with key:=vk,val:=vx}):=by
       refine⟨by simpa using he.1,fun j' e0 hj0=>?_⟩
       by_cases hji:j'=i
       ·subst hji
        have hlt:j'<ents.length:=(List.getElem?_eq_some_iff.1 hj).1
        rw[List.getElem?_set_self hlt]at hj0
        simp only[Option.some.injEq]at hj0
        subst hj0
        refine⟨{e' with key:=vk,val:=vx},by simp[Array.getElem?_modify,hj'],hk,hx,hst,fun h=>?_⟩
        simp only[Bool.and_eq_true]at h
        exact h.2
       ·rw[List.getElem?_set_ne (fun h=>hji h.symm)]at hj0
        obtain⟨e2,r1,r2,r3,r4,r5⟩:=he.2 j' e0 hj0
        refine⟨e2,by simp[Array.getElem?_modify,Ne.symm hji,r1],r2,r3,r4,fun h=>?_⟩
        simp only[Bool.and_eq_true]at h
        exact r5 h.1
      obtain⟨k1,k2⟩:=hI.TF (clock':=clock) ho hφ hb hB hE (NI (H8 hI ho hφ hb) _ _ fun _=>rfl)
      refine⟨rfl,_,?_,k1,k2⟩
      simp only[Instr.mapUpdate,Sem.run_bind,run_underlying hu,Result.andThen_ok,Dl hb,hck,hrun,hj',Option.map_some,Option.getD_some,Instr.keyThatStays,hsb,if_true,Sem.run_pure,Fq hb]
    ·rename_i hf
     simp only[Option.some.injEq,Prod.mk.injEq,AL.ok.injEq]at hev
     obtain⟨rfl,rfl⟩:=hev
     rcases run_findKey (P:=P) hl hk he hf with⟨_,hrun⟩|⟨j,k',y',e',h,_⟩
     ·have hE:Fe w Z φ s.ctr (cl&&x.closed) (ents++[(k,x)]) (es.push {key:=vk,val:=vx,born:=clock}):=by
       refine⟨by simpa using he.1,fun j' e0 hj0=>?_⟩
       by_cases hji:j'<ents.length
       ·rw[List.getElem?_append_left hji]at hj0
        obtain⟨e2,r1,r2,r3,r4,r5⟩:=he.2 j' e0 hj0
        refine⟨e2,?_,r2,r3,r4,fun h=>?_⟩
        ·rw[Array.getElem?_push,if_neg (by have:=he.1;omega)];exact r1
        ·simp only[Bool.and_eq_true]at h
         exact r5 h.1
       ·have hj1:j'=ents.length:=by
               have:=(List.getElem?_eq_some_iff.1 hj0).1
               simp at this;omega
        subst hj1
        simp at hj0
        subst hj0
        refine⟨{key:=vk,val:=vx,born:=clock},?_,hk,hx,hst,fun h=>?_⟩
        ·rw[← he.1];simp
        ·simp only[Bool.and_eq_true]at h
         exact h.2
      obtain⟨k1,k2⟩:=hI.TF (clock':=clock+1) ho hφ hb hB hE (TD (H8 hI ho hφ hb))
      refine⟨rfl,_,?_,k1,k2⟩
      simp only[Instr.mapUpdate,Sem.run_bind,run_underlying hu,Result.andThen_ok,Dl hb,hck,hrun,Fq hb]
     ·cases h
    ·cases hev
   ·cases hev
  ·cases hev
 ·cases hev
theorem Zc (hI:Inv w0 B s Z φ w) {t kt e ty:TypeId} {t2:Array TypeId} (hu:P.underlying t=some (.map kt e)) (ht:t2[0]?=some t) {l:IQ} (hl:EJ P kt=some l) {m k v:AV} {vm vk:Value} (hm:Rep w Z φ s.ctr m vm) (hk:Rep w Z φ s.ctr k vk)
 {C:Aq} {env:Env} {am ak:AO} (h1:am.val env=m) (h2:ak.val env=k) (hev:Ae C (.delete l am ak) env s=some (.ok v,s')):
 v=.undef∧∃w',(Builtin.delete_ t2 ty #[vm,vk]).run P w=.ok undef w'∧Inv w0 B s' Z φ w'∧Later B w Z φ s.ctr w' Z φ s'.ctr:=by
 simp only[Ae,h1,h2]at hev
 split at hev
 ·rename_i o g
  split at hev
  ·rename_i g' cl ents ho
   split at hev
   ·rename_i hc
    obtain⟨rfl,hko⟩:=hc
    rw[Aj]at ho
    obtain⟨b,e1,n1,es,clock,rfl,hφ,hB,hb,he⟩:=Mc hI ho hm
    have hck:=run_checkKey (w:=w) (Z:=Z) (φ:=φ) (ctr:=s.ctr) hl hko hk es.isEmpty 9999
    split at hev
    ·rename_i i y hf
     simp only[Option.some.injEq,Prod.mk.injEq,AL.ok.injEq]at hev
     obtain⟨rfl,rfl⟩:=hev
     rcases run_findKey (P:=P) hl hk he hf with⟨h,_⟩|⟨j,k',y',e',h,hj,hj',hrun,hq⟩
     ·cases h
     ·simp only[Option.some.injEq,Prod.mk.injEq]at h
      obtain⟨rfl,rfl⟩:=h
      have hlt:i<es.size:=by
       have:=(List.getElem?_eq_some_iff.1 hj).1
       rw[he.1];exact this
      have hE:Fe w Z φ s.ctr cl (ents.eraseIdx i) (es.eraseIdxIfInBounds i):=by
       have hll:(es.eraseIdxIfInBounds i).toList=es.toList.eraseIdx i:=by
        simp[Array.eraseIdxIfInBounds,hlt]
       have hi2:i<ents.length:=(List.getElem?_eq_some_iff.1 hj).1
       refine⟨?_,fun j' e0 hj0=>?_⟩
       ·rw[← Array.length_toList,hll,List.length_eraseIdx_of_lt (by simpa using hlt),List.length_eraseIdx_of_lt hi2]
        simp[he.1]
       ·rw[List.getElem?_eraseIdx]at hj0
        have hes:∀q,(es.eraseIdxIfInBounds i)[q]?=if q<i then es[q]? else es[q+1]?:=by
               intro q
               rw[← Array.getElem?_toList,hll,List.getElem?_eraseIdx]
               simp
        rw[hes]
        split at hj0
        ·rename_i hlt'
         rw[if_pos hlt']
         exact he.2 j' e0 hj0
        ·rename_i hlt'
         rw[if_neg hlt']
         exact he.2 (j'+1) e0 hj0
      obtain⟨k1,k2⟩:=hI.TF (clock':=clock) ho hφ hb hB hE (Abl (H8 hI ho hφ hb) _)
      refine⟨rfl,_,?_,k1,k2⟩
      cases ht':t2[1]?<;>simp only[Builtin.delete_,ht,List.getElem?_toArray,List.getElem?_cons_zero,List.getElem?_cons_succ,Sem.run_bind,run_underlying hu,Result.andThen_ok,Dl hb,hck,hrun,Fq hb,Sem.run_pure]<;>rfl
    ·rename_i hf
     simp only[Option.some.injEq,Prod.mk.injEq,AL.ok.injEq]at hev
     obtain⟨rfl,rfl⟩:=hev
     rcases run_findKey (P:=P) hl hk he hf with⟨_,hrun⟩|⟨j,k',y',e',h,_⟩
     ·have hself:({w with heap:=w.heap.setIfInBounds b (.map es clock)}:World)=w:=by
       have:w.heap.setIfInBounds b (.map es clock)=w.heap:=by
        apply Array.ext_getElem?
        intro q
        by_cases hq:q=b
        ·subst hq
         have hlt:q<w.heap.size:=(Array.getElem?_eq_some_iff.1 hb).1
         rw[Array.getElem?_setIfInBounds_self_of_lt hlt,hb]
        ·rw[Array.getElem?_setIfInBounds_ne (Ne.symm hq)]
       rw[this]
      refine⟨rfl,w,?_,hI,Later.refl _ _ _ _ _⟩
      simp only[Builtin.delete_,ht,List.getElem?_toArray,List.getElem?_cons_zero,List.getElem?_cons_succ,Sem.run_bind,run_underlying hu,Result.andThen_ok,Dl hb,hck,hrun,Fq hb,hself,Sem.run_pure]
      rfl
     ·cases h
    ·cases hev
   ·cases hev
  ·cases hev
 ·cases hev
theorem Abm (hI:Inv w0 B s Z φ w) (t:TypeId) {v:AV} {C:Aq} {env:Env} (hev:Ae C .NT env s=some (.ok v,s')):
 Qc w0 B w Z φ s.ctr s' v ((Instr.makeMap t none).run P w):=by
 simp only[Ae,Option.some.injEq,Prod.mk.injEq,AL.ok.injEq]at hev
 obtain⟨rfl,rfl⟩:=hev
 have hL:Later B w Z φ s.ctr (w.alloc (.map #[] 0)) Z (Bd φ s.ctr (.row w.heap.size 0 0)) (s.ctr+1):=
  EC hI (Dv w _) (fun _ _ h=>h) (fun _ _ h=>.inl h) (fun g hg=>ED φ _ hg) (by omega)
 refine⟨.map (some w.heap.size),w.alloc (.map #[] 0),Z,_,?_,hI.push (Dv w _) hL (fun _ _ h=>.inl h) (fun b i h=>by have:=hI.live b i h;simp;omega) ?_ rfl (fun b e n h=>?_),.map _ _ _ _ _ (Nat.lt_succ_self _) (Af _ _ _),hL⟩
 ·simp[Instr.makeMap]
 ·refine⟨by omega,w.heap.size,0,0,Af _ _ _,hI.base,#[],0,heap_alloc_new w _,⟨⟨rfl,AeS⟩,fun i z=>Nat.lt_irrefl _ (hI.live _ i z)⟩,fun i e h=>by simp at h⟩
 ·rw[Af]at h
  simp only[NQ.row.injEq]at h
  omega
end AI
end Go.Proofs.YtiimoiecghmebaaDoor
namespace Go.Proofs.YtiimoiecghmebaaDoor
namespace AI
open Go.RowKit
variable {P:Program} {B:Nat} {w w' w0:World} {Z Z':Bh} {φ φ':D8} {ctr BX:Nat} {s s':Ag}
def Dx (w:World) (Z:Bh) (φ:D8) (ctr:Nat) (args:List AV) (vs:Array Value):Prop:=
 args.length=vs.size∧∀(i:Nat) (a:AV),args[i]?=some a→∃v,vs[i]?=some v∧Rep w Z φ ctr a v
def MW (w:World) (Z:Bh) (φ:D8) (ctr:Nat):AL→Ending→Prop
 | .ok r,e=>∃x,e=.returned x∧Rep w Z φ ctr r x
 | .Ee v,e=>∃x,e=.panicked [{v:=x,recovered:=false}]∧Rep w Z φ ctr v x
def Agn (P : Program) (f : Nat) : Prop := ∃ fn, P.funcs[f]? = some fn ∧ fn.body.isSome = true ∧ (fn.name == "runtime.NumGoroutine") = false
def TI (P:Program) (f:Nat) (vs:Array Value) (w:World) (R:Ending→World→Prop):Prop:=
 Agn P f∧Calls P f vs w R∨∃x,(callFunc f vs).run P w=.ok (.value x) w∧R (.returned x) w
theorem TI.mono {f:Nat} {vs:Array Value} {R R':Ending→World→Prop} (h:TI P f vs w R) (hr:∀e w',R e w'→R' e w'):TI P f vs w R':=
 h.elim (fun h=>.inl ⟨h.1,Calls.mono h.2 hr⟩) fun⟨x,h1,h2⟩=>.inr ⟨x,h1,hr _ _ h2⟩
def Ar (P:Program) (C:Aq):Prop:=
 ∀f args s out s',C f args s=some (out,s')→∀w0 B Z φ w vs,Inv w0 B s Z φ w→Dx w Z φ s.ctr args vs→
  TI P f vs w fun e w'=>∃Z' φ',Inv w0 B s' Z' φ' w'∧Later B w Z φ s.ctr w' Z' φ' s'.ctr∧MW w' Z' φ' s'.ctr out e
theorem OW {σ:List Obj}:∀{n:Nat} {v v':AV},snap σ n v=some v'→v'.one=v.one
 |0,v,v',h=>by simp[snap]at h
 |n+1,v,v',h=>by
  cases v<;>simp only[snap,Option.map_eq_some_iff,Option.some.injEq]at h
  case own o g off len=>
   split at h
   ·split at h
    ·split at h
     ·simp only[Option.some.injEq]at h;subst h;rfl
     ·simp only[Option.map_eq_some_iff]at h;obtain⟨_,_,rfl⟩:=h;rfl
    ·cases h
   ·cases h
  case ref o g i off=>
   split at h
   ·split at h
    ·split at h
     ·split at h
      ·simp only[Option.some.injEq]at h;subst h;rfl
      ·simp only[Option.map_eq_some_iff]at h;obtain⟨_,_,rfl⟩:=h;rfl
     ·cases h
    ·cases h
   ·cases h
  case map o g=>
   split at h
   ·split at h
    ·simp only[Option.map_eq_some_iff]at h;obtain⟨_,_,rfl⟩:=h;rfl
    ·cases h
   ·cases h
  case agg=>obtain⟨_,_,rfl⟩:=h;rfl
  case Dy=>obtain⟨_,_,rfl⟩:=h;rfl
  case fn=>obtain⟨_,_,rfl⟩:=h;rfl
  case iface=>obtain⟨_,_,rfl⟩:=h;rfl
  all_goals (subst h;rfl)
theorem Adm {σ:List Obj}:∀{n:Nat} {v v':AV},snap σ n v=some v'→v'.storable=v.storable
 |0,v,v',h=>by simp[snap]at h
 |n+1,v,v',h=>by
  cases v<;>simp only[snap,Option.map_eq_some_iff,Option.some.injEq]at h
  case own o g off len=>
   split at h
   ·split at h
    ·split at h
     ·simp only[Option.some.injEq]at h;subst h;rfl
     ·simp only[Option.map_eq_some_iff]at h;obtain⟨_,_,rfl⟩:=h;rfl
    ·cases h
   ·cases h
  case ref o g i off=>
   split at h
   ·split at h
    ·split at h
     ·split at h
      ·simp only[Option.some.injEq]at h;subst h;rfl
      ·simp only[Option.map_eq_some_iff]at h;obtain⟨_,_,rfl⟩:=h;rfl
     ·cases h
    ·cases h
   ·cases h
  case map o g=>
   split at h
   ·split at h
    ·simp only[Option.map_eq_some_iff]at h;obtain⟨_,_,rfl⟩:=h;rfl
    ·cases h
   ·cases h
  case agg=>obtain⟨_,_,rfl⟩:=h;rfl
  case Dy=>obtain⟨_,_,rfl⟩:=h;rfl
  case fn=>obtain⟨_,_,rfl⟩:=h;rfl
  case iface=>obtain⟨_,_,rfl⟩:=h;rfl
  all_goals (subst h;rfl)
theorem U7 {σ:List Obj}:∀{n:Nat} {es es':List (AV×AV)},MI σ n es=some es'→es'.length=es.length∧∀(i:Nat) (e':AV×AV),es'[i]?=some e'→∃e m,es[i]?=some e∧m<n∧e'.1=e.1∧e.1.closed=true∧snap σ m e.2=some e'.2
 |n,[],es',h=>by
  cases n<;>simp only[MI,Option.some.injEq]at h<;>subst h<;>exact⟨rfl,fun i v' hi=>by simp at hi⟩
 |0,_::_,es',h=>by simp[MI]at h
 |n+1,(k,v)::es,es',h=>by
  simp only[MI]at h
  split at h
  ·rename_i a b h1 h2
   split at h
   ·rename_i hc
    simp only[Option.some.injEq]at h
    subst h
    obtain⟨hl,hr⟩:=U7 h2
    refine⟨by simp[hl],fun i e' hi=>?_⟩
    cases i with
    |zero=>
     simp only[List.getElem?_cons_zero,Option.some.injEq]at hi
     subst hi
     exact⟨(k,v),n,rfl,by omega,rfl,hc,h1⟩
    |succ i=>
     obtain⟨u,m,k1,k2,k3⟩:=hr i e' (by simpa using hi)
     exact⟨u,m,by simpa using k1,by omega,k3⟩
   ·cases h
  ·cases h
theorem Ih {σ:List Obj}:∀{n:Nat} {vs vs':List AV},GH σ n vs=some vs'→vs'.length=vs.length∧∀(i:Nat) (v':AV),vs'[i]?=some v'→∃v m,vs[i]?=some v∧m<n∧snap σ m v=some v'
 |n,[],vs',h=>by
  cases n<;>simp only[GH,Option.some.injEq]at h<;>subst h<;>exact⟨rfl,fun i v' hi=>by simp at hi⟩
 |0,_::_,vs',h=>by simp[GH]at h
 |n+1,v::vs,vs',h=>by
  simp only[GH]at h
  split at h
  ·rename_i a b h1 h2
   simp only[Option.some.injEq]at h
   subst h
   obtain⟨hl,hr⟩:=Ih h2
   refine⟨by simp[hl],fun i v' hi=>?_⟩
   cases i with
   |zero=>
    simp only[List.getElem?_cons_zero,Option.some.injEq]at hi
    subst hi
    exact⟨v,n,rfl,by omega,h1⟩
   |succ i=>
    obtain⟨u,m,k1,k2,k3⟩:=hr i v' (by simpa using hi)
    exact⟨u,m,by simpa using k1,by omega,k3⟩
  ·cases h
def TK (Z:Bh) (B:Nat) (w:World):Bh:=fun b i=>Z b i∨(B≤b∧b<w.heap.size)
set_option maxHeartbeats 2000000 in
theorem TL (hI:Inv w0 B s Z φ w):∀(n:Nat) (v v':AV) (x:Value),snap s.σ n v=some v'→Rep w Z φ s.ctr v x→Rep w (TK Z B w) φ s.ctr v' x∧v'.closed=true:=by
 intro n
 induction n using Nat.strongRecOn with
 |_ n ih=>
  intro v v' x h hr
  cases n with
  |zero=>simp[snap]at h
  |succ n=>
   have widen:∀{a:AV} {y:Value},Rep w Z φ s.ctr a y→a.closed=true→Rep w (TK Z B w) φ s.ctr a y:=fun r hc=>r.shift (fun b i z=>⟨.inl z,rfl⟩) hc
   have list:∀{cs cs':List AV} {vs:Array Value},GH s.σ n cs=some cs'→(∀ (i:Nat) (c:AV),cs[i]?=some c→Rep w Z φ s.ctr c (vs.getD i undef))→
    cs'.length=cs.length∧(∀ (i:Nat) (c:AV),cs'[i]?=some c→Rep w (TK Z B w) φ s.ctr c (vs.getD i undef)∧c.closed=true∧∃c0,cs[i]?=some c0∧c.one=c0.one):=by
      intro cs cs' vs hs hrs
      obtain⟨hl,hg⟩:=Ih hs
      refine⟨hl,fun i c hi=>?_⟩
      obtain⟨u,m,k1,k2,k3⟩:=hg i c hi
      obtain⟨q1,q2⟩:=ih m (by omega) u c _ k3 (hrs i u k1)
      exact⟨q1,q2,u,k1,OW k3⟩
   cases v
   case own o g off len=>
      simp only[snap]at h
      split at h
      ·rename_i g' es nn cl elems ho
       split at h
       ·rename_i hc
        obtain⟨rfl,hfit⟩:=hc
        rw[Aj]at ho
        have hob:=hI.objs o _ ho
        have hlen:(sub elems off len).length=len:=Iw hfit
        obtain⟨_,hes,h3⟩:=hob
        have elem:∀(xs:List AV),xs.length=len→(∀ (i:Nat) (c:AV),xs[i]?=some c→∃c0,(sub elems off len)[i]?=some c0∧((c=c0∧cl=true)∨∃m,m<n∧snap s.σ m c0=some c))→
         Rep w (TK Z B w) φ s.ctr (.sl nn xs) x:=by
         intro xs hxl hxs
         cases hr with
         |BP _ _ hg hφ=>
          rw[hφ]at h3
          obtain⟨rfl,_⟩:=h3
          have:xs=[]:=List.eq_nil_of_length_eq_zero hxl
          subst this
          exact .EI
         |Dz _ _ a0 hg hφ=>
          rw[hφ]at h3
          obtain⟨rfl,_⟩:=h3
          have:xs=[]:=List.eq_nil_of_length_eq_zero hxl
          subst this
          exact .sl0 a0
         |own _ _ _ _ b e size cap ad hg hφ hcap ha hs=>
          rw[hφ]at h3
          obtain⟨rfl,he,hB,hnz,hfs,c,t,hw,hcs,hH⟩:=h3
          subst he
          have hblt:b<w.heap.size:=(Array.getElem?_eq_some_iff.1 hw).1
          by_cases hl0:len=0
          ·have:xs=[]:=List.eq_nil_of_length_eq_zero (by omega)
           subst this
           obtain⟨ab,ao,asp⟩:=ad
           simp only at hs
           subst hs
           rw[hl0]
           exact .sl [] 0 ab ao cap 1 (fun _ _=>Go.undef) rfl (by omega) (by omega) (fun i x hx=>by simp at hx) (fun i x j c hx=>by simp at hx) (fun i x j c hx=>by simp at hx)
          ·obtain⟨rfl,hsize,_⟩:=ha (.inl (by omega))
           let f:Nat→Nat→Value:=fun i j=>(c[(off+i)*e+j]?).getD Go.undef
           have key:∀(i:Nat) (y:AV),xs[i]?=some y→y.cells.length=e∧∀(j:Nat) (q:AV),y.cells[j]?=some q→w.cell? ⟨b,off*e+i*e+j,none⟩=some (f i j)∧Rep w (TK Z B w) φ s.ctr q (f i j)∧q.closed=true∧q.one=true:=by
              intro i y hy
              obtain⟨c0,hc0,hor⟩:=hxs i y hy
              obtain⟨hc0',_⟩:=getElem_sub hc0
              obtain⟨k1,k2⟩:=hH _ _ hc0'
              have cellAt:∀(j:Nat) (q0:AV),c0.cells[j]?=some q0→w.cell? ⟨b,off*e+i*e+j,none⟩=some (f i j)∧Rep w Z φ s.ctr q0 (f i j)∧q0.one=true∧(cl=true→q0.closed=true):=by
                intro j q0 hq0
                obtain⟨u,r1,r2,r3,r4⟩:=k2 j q0 hq0
                have hf:f i j=u:=by simp[f,r1]
                rw[hf]
                refine⟨?_,r2,r3,r4⟩
                rw[show off*e+i*e+j=(off+i)*e+j by rw[Nat.add_mul]]
                simp[World.cell?,hw,r1]
              rcases hor with⟨rfl,hcl⟩|⟨m,hm,hsn⟩
              ·refine⟨k1,fun j q hq=>?_⟩
               obtain⟨r1,r2,r3,r4⟩:=cellAt j q hq
               exact⟨r1,widen r2 (r4 hcl),r4 hcl,r3⟩
              ·cases m with
               |zero=>simp[snap]at hsn
               |succ m=>
                by_cases hagg:∃cs,c0=.agg cs
                ·obtain⟨cs,rfl⟩:=hagg
                 simp only[snap,Option.map_eq_some_iff]at hsn
                 obtain⟨cs',hcs',rfl⟩:=hsn
                 obtain⟨hl',hg'⟩:=Ih hcs'
                 refine⟨by simp only[AV.cells]at k1 ⊢;omega,fun j q hq=>?_⟩
                 obtain⟨u,m',r1,r2,r3⟩:=hg' j q hq
                 obtain⟨t1,t2,t3,t4⟩:=cellAt j u r1
                 obtain⟨p1,p2⟩:=ih m' (by omega) u q _ r3 t2
                 exact⟨t1,p1,p2,by rw[OW r3];exact t3⟩
                ·have hc1:c0.cells=[c0]:=by cases c0<;>first|rfl|exact(hagg ⟨_,rfl⟩).elim
                 obtain⟨t1,t2,t3,t4⟩:=cellAt 0 c0 (by rw[hc1];rfl)
                 obtain⟨p1,p2⟩:=ih (m+1) (by omega) c0 y _ hsn t2
                 have hone:=OW hsn
                 have hy1:y.cells=[y]:=by
                     have:y.one=true:=by rw[hone];exact t3
                     cases y<;>simp_all [AV.one,AV.cells]
                 refine⟨by rw[hy1];rw[hc1]at k1;exact k1,fun j q hq=>?_⟩
                 rw[hy1]at hq
                 cases j with
                 |zero=>
                  simp only[List.getElem?_cons_zero,Option.some.injEq]at hq
                  subst hq
                  exact⟨t1,p1,p2,by rw[hone];exact t3⟩
                 |succ j=>simp at hq
           exact .sl xs len b (off*e) cap e f hxl.symm hcap hes (fun i y hy=>(key i y hy).1) (fun i y j q hy hq=>by
              obtain⟨r1,r2,r3,r4⟩:=(key i y hy).2 j q hq
              exact⟨.inr ⟨hB,hblt⟩,r1,r3,r4⟩) (fun i y j q hy hq=>((key i y hy).2 j q hq).2.1)
        split at h
        ·rename_i hcl
         simp only[Option.some.injEq]at h
         subst h
         exact⟨elem _ hlen fun i c hi=>⟨c,hi,.inl ⟨rfl,hcl⟩⟩,rfl⟩
        ·simp only[Option.map_eq_some_iff]at h
         obtain⟨xs,hxs,rfl⟩:=h
         obtain⟨hl,hg⟩:=Ih hxs
         refine⟨elem xs (by omega) fun i c hi=>?_,rfl⟩
         obtain⟨u,m,k1,k2,k3⟩:=hg i c hi
         exact⟨u,k1,.inr ⟨m,k2,k3⟩⟩
       ·cases h
      ·cases h
   case ref o g i off=>
      simp only[snap]at h
      split at h
      ·rename_i g' es nn cl elems ho
       split at h
       ·rename_i hg;subst hg
        split at h
        ·rename_i y hy
         rw[Aj]at ho hy
         cases hr with
         |ref _ _ _ _ b e size hg hφ=>
          have hob:=hI.objs o _ ho
          obtain⟨_,hes,h3⟩:=hob
          rw[hφ]at h3
          obtain⟨_,he,hB,hnz,hfs,c,t,hw,hcs,hH⟩:=h3
          subst he
          have hblt:b<w.heap.size:=(Array.getElem?_eq_some_iff.1 hw).1
          obtain⟨k1,k2⟩:=hH i y hy
          let f:Nat→Value:=fun j=>(c[i*e+(off+j)]?).getD Go.undef
          have cellAt:∀(j:Nat) (q0:AV),(y.cells.drop off)[j]?=some q0→w.cell? ⟨b,i*e+off+j,none⟩=some (f j)∧Rep w Z φ s.ctr q0 (f j)∧q0.one=true∧(cl=true→q0.closed=true):=by
                  intro j q0 hq0
                  rw[List.getElem?_drop]at hq0
                  obtain⟨u,r1,r2,r3,r4⟩:=k2 _ q0 hq0
                  have hf:f j=u:=by simp[f,r1]
                  rw[hf]
                  refine⟨?_,r2,r3,r4⟩
                  rw[show i*e+off+j=i*e+(off+j) by omega]
                  simp[World.cell?,hw,r1]
          split at h
          ·rename_i hcl
           simp only[Option.some.injEq]at h
           subst h
           refine⟨.CS _ b _ f (fun j q hq=>?_) (fun j q hq=>?_),rfl⟩
           ·obtain⟨r1,r2,r3,r4⟩:=cellAt j q hq
            exact⟨.inr ⟨hB,hblt⟩,r1,r4 hcl,r3⟩
           ·obtain⟨r1,r2,r3,r4⟩:=cellAt j q hq
            exact widen r2 (r4 hcl)
          ·simp only[Option.map_eq_some_iff]at h
           obtain⟨xs,hxs,rfl⟩:=h
           obtain⟨hl,hg'⟩:=Ih hxs
           have each:∀(j:Nat) (q:AV),xs[j]?=some q→w.cell? ⟨b,i*e+off+j,none⟩=some (f j)∧Rep w (TK Z B w) φ s.ctr q (f j)∧q.closed=true∧q.one=true:=by
              intro j q hq
              obtain⟨u,m,r1,r2,r3⟩:=hg' j q hq
              obtain⟨t1,t2,t3,t4⟩:=cellAt j u r1
              obtain⟨p1,p2⟩:=ih m (by omega) u q _ r3 t2
              exact⟨t1,p1,p2,by rw[OW r3];exact t3⟩
           refine⟨.CS _ b _ f (fun j q hq=>?_) (fun j q hq=>(each j q hq).2.1),rfl⟩
           obtain⟨r1,r2,r3,r4⟩:=each j q hq
           exact⟨.inr ⟨hB,hblt⟩,r1,r3,r4⟩
        ·cases h
       ·cases h
      ·cases h
   case map o g=>
      simp only[snap]at h
      split at h
      ·rename_i g' cl ents ho
       split at h
       ·rename_i hc
        subst hc
        simp only[Option.map_eq_some_iff]at h
        obtain⟨es2,he2,rfl⟩:=h
        rw[Aj]at ho
        obtain⟨b,e,n',es,clock,rfl,hφ,hB,hb,hE⟩:=Mc hI ho hr
        have hst:=H8 hI ho hφ hb
        have hblt:b<w.heap.size:=(Array.getElem?_eq_some_iff.1 hb).1
        obtain⟨hl,hg⟩:=U7 he2
        have each:∀(i:Nat) (e:AV×AV),es2[i]?=some e→es[i]?=some ((es[i]?).getD {key:=Go.undef,val:=Go.undef,born:=0})∧e.1.closed=true∧e.2.closed=true∧e.2.storable=true∧
         Rep w (TK Z B w) φ s.ctr e.1 ((es[i]?).getD {key:=Go.undef,val:=Go.undef,born:=0}).key∧Rep w (TK Z B w) φ s.ctr e.2 ((es[i]?).getD {key:=Go.undef,val:=Go.undef,born:=0}).val:=by
         intro i e he
         obtain⟨e0,m,k1,k2,k3,k4,k5⟩:=hg i e he
         obtain⟨e',q1,q2,q3,q4,_⟩:=hE.2 i e0 k1
         obtain⟨p1,p2⟩:=ih m (by omega) _ _ _ k5 q3
         rw[q1]
         exact⟨rfl,by rw[k3];exact k4,p2,by rw[Adm k5];exact q4,by rw[k3];exact widen q2 k4,p1⟩
        exact⟨.fmap es2 b es clock (fun i=>(es[i]?).getD {key:=Go.undef,val:=Go.undef,born:=0}) (.inr ⟨hB,hblt⟩) hb hst (hE.1.trans hl.symm) (fun i e he=>⟨(each i e he).1,(each i e he).2.1,(each i e he).2.2.1,(each i e he).2.2.2.1⟩) (fun i e he=>(each i e he).2.2.2.2.1) (fun i e he=>(each i e he).2.2.2.2.2),rfl⟩
       ·cases h
      ·cases h
   case agg cs=>
      simp only[snap,Option.map_eq_some_iff]at h
      obtain⟨cs',hs,rfl⟩:=h
      cases hr with
      |agg _ vs hl ho hr=>
       obtain⟨k1,k2⟩:=list hs hr
       exact⟨.agg cs' vs (by omega) (fun i c hi=>by obtain⟨_,_,c0,h1,h2⟩:=k2 i c hi;rw[h2];exact ho i c0 h1) (fun i c hi=>(k2 i c hi).1),by simp only[AV.closed];exact Dj fun i c hi=>(k2 i c hi).2.1⟩
   case Dy cs=>
      simp only[snap,Option.map_eq_some_iff]at h
      obtain⟨cs',hs,rfl⟩:=h
      cases hr with
      |Dy _ vs hl hr=>
       obtain⟨k1,k2⟩:=list hs hr
       exact⟨.Dy cs' vs (by omega) (fun i c hi=>(k2 i c hi).1),by simp only[AV.closed];exact Dj fun i c hi=>(k2 i c hi).2.1⟩
   case fn f cs=>
      simp only[snap,Option.map_eq_some_iff]at h
      obtain⟨cs',hs,rfl⟩:=h
      cases hr with
      |fn _ _ vs hl hr=>
       obtain⟨k1,k2⟩:=list hs hr
       exact⟨.fn f cs' vs (by omega) (fun i c hi=>(k2 i c hi).1),by simp only[AV.closed];exact Dj fun i c hi=>(k2 i c hi).2.1⟩
   case iface t u=>
      simp only[snap,Option.map_eq_some_iff]at h
      obtain⟨u',hs,rfl⟩:=h
      cases hr with
      |iface _ _ y hr=>
       obtain⟨p1,p2⟩:=ih n (by omega) u u' y hs hr
       exact⟨.iface _ _ _ p1,p2⟩
   all_goals (simp only[snap,Option.some.injEq]at h;subst h;exact⟨widen hr rfl,rfl⟩)
theorem Zd (hI:Inv w0 B s Z φ w) {n:Nat} {args args':List AV} {vs:Array Value} (h:GH s.σ n args=some args') (hr:Dx w Z φ s.ctr args vs):
 Dx w (TK Z B w) φ s.ctr args' vs∧∀(i:Nat) (a:AV),args'[i]?=some a→a.closed=true:=by
 obtain⟨hl,hg⟩:=Ih h
 refine⟨⟨hl.trans hr.1,fun i a hi=>?_⟩,fun i a hi=>?_⟩
 ·obtain⟨u,m,k1,_,k3⟩:=hg i a hi
  obtain⟨v,q1,q2⟩:=hr.2 i u k1
  exact⟨v,q1,(TL hI m u a v k3 q2).1⟩
 ·obtain⟨u,m,k1,_,k3⟩:=hg i a hi
  obtain⟨v,q1,q2⟩:=hr.2 i u k1
  exact(TL hI m u a v k3 q2).2
theorem Ze:∀{a:AV} {v:Value},Rep w Z φ ctr a v→a.scalar=true→∀{w':World} {Z':Bh} {φ':D8} {BX:Nat},Rep w' Z' φ' BX a v:=by
 intro a v hr
 induction hr with
 |bool b=>intro _ _ _ _ _;exact .bool b
 |int k n=>intro _ _ _ _ _;exact .int k n
 |str s l h=>intro _ _ _ _ _;exact .str s l h
 |EI=>intro _ _ _ _ _;exact .EI
 |agg cs vs hl ho hr ih=>
  intro h w' Z' φ' BX
  have hs:∀(i:Nat) (c:AV),cs[i]?=some c→c.scalar=true:=by
   have:JC cs=true:=by simpa[AV.scalar]using h
   clear hl ho hr ih h
   induction cs with
   |nil=>intro i c hi;simp at hi
   |cons x xs ihx=>
    simp only[JC,Bool.and_eq_true]at this
    intro i c hi
    cases i with
    |zero=>simp at hi;exact hi▸this.1
    |succ i=>exact ihx this.2 i c (by simpa using hi)
  exact .agg cs vs hl ho fun i c hi=>ih i c hi (hs i c hi)
 |Dy cs vs hl hr ih=>
  intro h w' Z' φ' BX
  have hs:∀(i:Nat) (c:AV),cs[i]?=some c→c.scalar=true:=by
   have:JC cs=true:=by simpa[AV.scalar]using h
   clear hl hr ih h
   induction cs with
   |nil=>intro i c hi;simp at hi
   |cons x xs ihx=>
    simp only[JC,Bool.and_eq_true]at this
    intro i c hi
    cases i with
    |zero=>simp at hi;exact hi▸this.1
    |succ i=>exact ihx this.2 i c (by simpa using hi)
  exact .Dy cs vs hl fun i c hi=>ih i c hi (hs i c hi)
 |IL=>intro _ _ _ _ _;exact .IL
 |Cj=>intro _ _ _ _ _;exact .Cj
 |ET=>intro _ _ _ _ _;exact .ET
 |Gl=>intro _ _ _ _ _;exact .Gl
 |undef=>intro _ _ _ _ _;exact .undef
 |sl=>intro h;simp[AV.scalar]at h
 |sl0=>intro h;simp[AV.scalar]at h
 |zc=>intro h;simp[AV.scalar]at h
 |own=>intro h;simp[AV.scalar]at h
 |BP=>intro h;simp[AV.scalar]at h
 |Dz=>intro h;simp[AV.scalar]at h
 |ref=>intro h;simp[AV.scalar]at h
 |CS=>intro h;simp[AV.scalar]at h
 |fn=>intro h;simp[AV.scalar]at h
 |map=>intro h;simp[AV.scalar]at h
 |fmap=>intro h;simp[AV.scalar]at h
 |iface=>intro h;simp[AV.scalar]at h
 |junk=>intro h;simp[AV.scalar]at h
theorem Inv.take (hI:Inv w0 B s Z φ w) (n:Nat):Inv w0 B ⟨s.σ.take n,s.ctr⟩ Z φ w:=by
 have look:∀(o:Nat) (ob:Obj),(s.σ.take n)[o]?=some ob→s.σ[o]?=some ob:=by
  intro o ob h
  rw[List.getElem?_take]at h
  split at h
  ·exact h
  ·cases h
 exact⟨hI.below,hI.base,fun o ob h=>hI.objs o ob (look o ob h),fun o o' ob ob' g g' b e n' e' n'' h h' hg hg' hp hp'=>hI.apart o o' ob ob' g g' b e n' e' n'' (look _ _ h) (look _ _ h') hg hg' hp hp',hI.live⟩
theorem Inv.keep (hI:Inv w0 B s Z φ w) {n o:Nat} (hn:n≤o) {ob:Obj} (ho:s.σ[o]?=some ob):Inv w0 B ⟨s.σ.take n++[ob],s.ctr⟩ Z φ w:=by
 have hlt:o<s.σ.length:=(List.getElem?_eq_some_iff.1 ho).1
 have hl:(s.σ.take n).length=n:=by simp;omega
 have look:∀(o':Nat) (ob':Obj),(s.σ.take n++[ob])[o']?=some ob'→(o'<n∧s.σ[o']?=some ob')∨(o'=n∧ob'=ob):=by
  intro o' ob' h
  rcases Nat.lt_trichotomy o' n with h1|h1|h1
  ·rw[List.getElem?_append_left (by omega),List.getElem?_take_of_lt h1]at h
   exact .inl ⟨h1,h⟩
  ·subst h1
   rw[List.getElem?_append_right (by omega),hl]at h
   simp at h
   exact .inr ⟨rfl,h.symm⟩
  ·rw[List.getElem?_eq_none (by simp;omega)]at h;cases h
 refine⟨hI.below,hI.base,fun o' ob' h=>?_,fun o1 o2 VD YH g g' b e n' e' n'' h1 h2 hg hg' hp hp'=>?_,hI.live⟩
 ·rcases look o' ob' h with⟨_,k⟩|⟨_,rfl⟩
  ·exact hI.objs _ _ k
  ·exact hI.objs _ _ ho
 ·rcases look o1 VD h1 with⟨l1,k1⟩|⟨e1,rfl⟩<;>rcases look o2 YH h2 with⟨l2,k2⟩|⟨e2,rfl⟩
  ·exact hI.apart o1 o2 VD YH g g' b e n' e' n'' k1 k2 hg hg' hp hp'
  ·have:=hI.apart o1 o VD _ g g' b e n' e' n'' k1 ho hg hg' hp hp'
   omega
  ·have:=hI.apart o o2 _ YH g g' b e n' e' n'' ho k2 hg hg' hp hp'
   omega
  ·omega
theorem Inv.empty {Z:Bh} (h:∀b i,Z b i→b<w.heap.size):Inv w w.heap.size ⟨[],0⟩ Z (fun _=>.nil) w:=
 ⟨Below.refl _ _,Nat.le_refl _,fun o ob h=>by simp at h,fun o o' ob ob' g g' b e n e' n' h=>by simp at h,h⟩
theorem Dx.closed {args:List AV} {vs:Array Value} (h:Dx w Z φ ctr args vs) (hc:∀(i:Nat) (a:AV),args[i]?=some a→a.closed=true):Dx w Z φ' BX args vs:=
 ⟨h.1,fun i a hi=>by obtain⟨v,h1,h2⟩:=h.2 i a hi;exact⟨v,h1,h2.shift (fun b i z=>⟨z,rfl⟩) (hc i a hi)⟩⟩
theorem TM {C:Aq} (hC:Ar P C) {f:Nat} {args:List AV} {r:AV} (h:Ce C f args=some r):∀w Z (φ:D8) (ctr:Nat) vs,(∀ b i,Z b i→b<w.heap.size)→Dx w Z φ ctr args vs→(∀ (i:Nat) (a:AV),args[i]?=some a→a.closed=true)→
 TI P f vs w fun e w'=>∃Z',Below w.heap.size w w'∧(∀ b i,Z b i→Z' b i)∧(∀ b i,Z' b i→Z b i∨w.heap.size≤b)∧(∀ b i,Z' b i→b<w'.heap.size)∧r.closed=true∧∃x,e=.returned x∧∀(φ:D8) (ctr:Nat),Rep w' Z' φ ctr r x:=by
 unfold Ce at h
 split at h
 ·rename_i r0 s' hc
  have hs:=hC f args _ _ _ hc
  intro w Z φ ctr vs hlive hargs hcl
  refine(hs w w.heap.size Z (fun _=>.nil) w vs (Inv.empty hlive) (hargs.closed hcl)).mono fun e w' ⟨Z',φ',hI,hL,x,he,hr⟩=>?_
  obtain⟨k1,k2⟩:=TL hI _ _ _ _ h hr
  refine⟨TK Z' w.heap.size w',hI.below,fun b i z=>.inl (hL.cold b i z),fun b i z=>?_,fun b i z=>?_,k2,x,he,fun φ ctr=>k1.shift (fun b i z=>⟨z,rfl⟩) k2⟩
  ·rcases z with z|⟨z,_⟩
   ·exact hL.new b i z
   ·exact .inr z
  ·rcases z with z|⟨_,z⟩
   ·exact hI.live b i z
   ·exact z
 ·cases h
theorem TP {C:Aq} (hC:Ar P C) (m:Mode):Ar P (AZ C m):=by
 intro f args s out s' h
 cases m with
 |keep=>exact hC f args s out s' h
 |pure=>
  simp only[AZ]at h
  split at h
  ·rename_i hcl
   simp only[Option.map_eq_some_iff,Prod.mk.injEq]at h
   obtain⟨r,hr,rfl,rfl⟩:=h
   have hs:=TM hC hr
   intro w0 B Z φ w vs hI hargs
   refine(hs w Z φ s.ctr vs hI.live hargs (DL hcl)).mono fun e w' ⟨Z',hb,hZ1,hZ2,hZ3,hrc,x,he,hrep⟩=>?_
   obtain⟨k1,k2⟩:=hI.grow hb hZ1 hZ2 hZ3
   exact⟨Z',φ,k1,k2,x,he,hrep _ _⟩
  ·cases h
 |borrow=>
  simp only[AZ]at h
  split at h
  ·rename_i args' hargs'
   split at h
   ·rename_i r hr
    split at h
    ·rename_i hsc
     simp only[Option.some.injEq,Prod.mk.injEq]at h
     obtain⟨rfl,rfl⟩:=h
     have hs:=TM hC hr
     intro w0 B Z φ w vs hI hargs
     obtain⟨q1,q2⟩:=Zd hI hargs' hargs
     refine(hs w (TK Z B w) φ s.ctr vs (fun b i z=>z.elim (hI.live b i) fun z=>z.2) q1 q2).mono fun e w' ⟨Z',hb,hZ1,hZ2,hZ3,hrc,x,he,hrep⟩=>?_
     obtain⟨k1,k2⟩:=hI.grow (Z':=Z) hb (fun _ _ h=>h) (fun _ _ h=>.inl h) (fun b i z=>Nat.lt_of_lt_of_le (hI.live b i z) hb.size)
     exact⟨Z,φ,k1,k2,x,he,Ze (hrep φ s.ctr) hsc⟩
    ·cases h
   ·cases h
  ·cases h
 |own=>
  simp only[AZ]at h
  split at h
  ·rename_i hcl
   split at h
   ·rename_i o g off len s1 hc
    split at h
    ·rename_i g' es nn cl elems ho
     split at h
     ·rename_i hcond
      obtain⟨rfl,rfl,rfl,hlen⟩:=hcond
      simp only[Option.some.injEq,Prod.mk.injEq]at h
      obtain⟨rfl,rfl⟩:=h
      have hs:=hC f args _ _ _ hc
      intro w0 B Z φ w vs hI hargs
      refine(hs w w.heap.size Z (fun _=>.nil) w vs (Inv.empty hI.live) (hargs.closed (DL hcl))).mono fun e w' ⟨Z',φ',hI',hL',x,he,hr⟩=>?_
      rw[Aj]at ho
      have hob:=hI'.objs o _ ho
      obtain⟨o1,o2,o3⟩:=hob
      have hL:Later B w Z φ s.ctr w' Z' (Bd φ s.ctr (φ' g)) (s.ctr+1):=
       EC hI hI'.below hL'.cold (fun b i z=>hL'.new b i z) (fun g hg=>ED φ _ hg) (by omega)
      have conv:∀{y:AV} {v:Value},Rep w' Z' φ' s1.ctr y v→y.closed=true→Rep w' Z' (Bd φ s.ctr (φ' g)) (s.ctr+1) y v:=fun r hc=>r.shift (fun b i z=>⟨z,rfl⟩) hc
      refine⟨Z',Bd φ s.ctr (φ' g),hI.push hI'.below hL (fun b i z=>hL'.new b i z) hI'.live ?_ rfl (fun b e n hp=>?_),hL,x,he,?_⟩
      ·refine⟨by omega,o2,?_⟩
       rw[Af]
       cases hφ:φ' g with
       |nil=>rw[hφ]at o3;exact o3
       |zc=>rw[hφ]at o3;exact o3
       |pend=>rw[hφ]at o3;exact o3
       |row b e n=>
        rw[hφ]at o3
        obtain⟨k1,k2,k3,k4,k5,c,t,k6,k7,k8⟩:=o3
        refine⟨k1,k2,Nat.le_trans hI.base k3,k4,k5,c,t,k6,k7,fun i y hy=>?_⟩
        obtain⟨q1,q2⟩:=k8 i y hy
        refine⟨q1,fun j z hz=>?_⟩
        obtain⟨v,r1,r2,r3,r4⟩:=q2 j z hz
        rw[hφ]at conv
        exact⟨v,r1,conv r2 (r4 rfl),r3,r4⟩
      ·rw[Af]at hp
       exact(DI.place (hI'.objs o _ ho) rfl hp).2
      ·cases hr with
       |own _ _ _ _ b e size cap a hg hφ hcap ha hsp=>exact .own _ _ _ _ b e size cap a (Nat.lt_succ_self _) (by rw[Af];exact hφ) hcap ha hsp
       |BP _ _ hg hφ=>exact .BP _ _ (Nat.lt_succ_self _) (by rw[Af];exact hφ)
       |Dz _ _ a0 hg hφ=>exact .Dz _ _ a0 (Nat.lt_succ_self _) (by rw[Af];exact hφ)
     ·cases h
    ·cases h
   ·rename_i s1 hc
    simp only[Option.some.injEq,Prod.mk.injEq]at h
    obtain⟨rfl,rfl⟩:=h
    have hs:=hC f args _ _ _ hc
    intro w0 B Z φ w vs hI hargs
    refine(hs w w.heap.size Z (fun _=>.nil) w vs (Inv.empty hI.live) (hargs.closed (DL hcl))).mono fun e w' ⟨Z',φ',hI',hL',x,he,hr⟩=>?_
    have hL:Later B w Z φ s.ctr w' Z' (Bd φ s.ctr .nil) (s.ctr+1):=
     EC hI hI'.below hL'.cold (fun b i z=>hL'.new b i z) (fun g hg=>ED φ _ hg) (by omega)
    cases hr
    refine⟨Z',Bd φ s.ctr .nil,hI.push hI'.below hL (fun b i z=>hL'.new b i z) hI'.live ⟨by omega,by omega,by rw[Af];exact⟨rfl,rfl⟩⟩ rfl (fun b e n h=>by rw[Af]at h;cases h),hL,_,he,?_⟩
    exact .BP _ _ (Nat.lt_succ_self _) (Af _ _ _)
   ·cases h
  ·cases h
 |share=>
  simp only[AZ]at h
  split at h
  ·rename_i r s1 hc
   have hs:=hC f args _ _ _ hc
   intro w0 B Z φ w vs hI hargs
   simp only[Option.map_eq_some_iff,Prod.mk.injEq,Prod.exists]at h
   obtain⟨r',s2,hcp,rfl,rfl⟩:=h
   refine(hs w0 B Z φ w vs hI hargs).mono fun e w' ⟨Z',φ',hI',hL',x,he,hr⟩=>?_
   unfold compact at hcp
   split at hcp
   ·rename_i o g off len
    split at hcp
    ·simp only[Option.some.injEq,Prod.mk.injEq]at hcp
     obtain⟨rfl,rfl⟩:=hcp
     exact⟨Z',φ',hI'.take _,hL',x,he,hr⟩
    ·split at hcp
     ·rename_i hlt ob ho
      simp only[Option.some.injEq,Prod.mk.injEq]at hcp
      obtain⟨rfl,rfl⟩:=hcp
      rw[Aj]at ho
      refine⟨Z',φ',hI'.keep (by omega) ho,hL',x,he,?_⟩
      cases hr with
      |own _ _ _ _ b e size cap a hg hφ hcap ha hsp=>exact .own _ _ _ _ b e size cap a hg hφ hcap ha hsp
      |BP _ _ hg hφ=>exact .BP _ _ hg hφ
      |Dz _ _ a0 hg hφ=>exact .Dz _ _ a0 hg hφ
     ·cases hcp
   ·split at hcp
    ·simp only[Option.some.injEq,Prod.mk.injEq]at hcp
     obtain⟨rfl,rfl⟩:=hcp
     exact⟨Z',φ',hI'.take _,hL',x,he,hr⟩
    ·simp only[Option.some.injEq,Prod.mk.injEq]at hcp
     obtain⟨rfl,rfl⟩:=hcp
     exact⟨Z',φ',hI',hL',x,he,hr⟩
  ·rename_i v s1 hc
   have hs:=hC f args _ _ _ hc
   split at h
   ·simp only[Option.some.injEq,Prod.mk.injEq]at h
    obtain⟨rfl,rfl⟩:=h
    intro w0 B Z φ w vs hI hargs
    exact(hs w0 B Z φ w vs hI hargs).mono fun e w' ⟨Z',φ',hI',hL',x,he,hr⟩=>⟨Z',φ',hI'.take _,hL',x,he,hr⟩
   ·cases h
  ·cases h
end AI
end Go.Proofs.YtiimoiecghmebaaDoor
namespace Go.Proofs.YtiimoiecghmebaaDoor
namespace AI
open Go.RowKit
variable {P:Program} {B:Nat} {w w' w0:World} {Z Z':Bh} {φ φ':D8} {ctr BX:Nat} {s s':Ag}
theorem AQ {o:Oper} {a:Act} {next:Act→World→Prop} {Q:Exit→Act→World→Prop} {x:Value} (h:(execOp a.eval o).run P w=.ok (.value x) w') (hn:next (a.put o.dst x) w'):o.wp P a w next Q:=by
 unfold Oper.wp;rw[h];exact hn
theorem JR {o:Oper} {a:Act} {next:Act→World→Prop} {Q:Exit→Act→World→Prop} (h:(execOp a.eval o).run P w=.ok .skip w') (hn:next (a.put o.dst undef) w'):o.wp P a w next Q:=by
 unfold Oper.wp;rw[h];exact hn
def TR (w0:World) (B:Nat) (w:World) (Z:Bh) (φ:D8) (ctr:Nat) (s':Ag) (v:AV) (next:Value→World→Prop):Prop:=
 ∀x w' Z' φ',Inv w0 B s' Z' φ' w'→Rep w' Z' φ' s'.ctr v x→Later B w Z φ ctr w' Z' φ' s'.ctr→next x w'
theorem TR.same {v:AV} {next:Value→World→Prop} (h:TR w0 B w Z φ s.ctr s v next) (hI:Inv w0 B s Z φ w) {x:Value} (hr:Rep w Z φ s.ctr v x):next x w:=
 h x w Z φ hI hr (Later.refl _ _ _ _ _)
theorem Wq {env:Env} {a:Act} (hE:Ak w Z φ ctr env a.tmps) {xs:Array Operand} {ys:List AO} (h:Bz xs.toList=some ys):Dx w Z φ ctr (vals env ys) (xs.map a.eval):=by
 obtain⟨h1,h2⟩:=KO hE h
 refine⟨by simpa using h1,fun i y hi=>?_⟩
 obtain⟨v,k1,k2⟩:=h2 i y hi
 exact⟨v,by simpa using k1,k2⟩
theorem Dx.append {as bs:List AV} {vs us:Array Value} (h:Dx w Z φ ctr as vs) (k:Dx w Z φ ctr bs us):Dx w Z φ ctr (as++bs) (vs++us):=by
 refine⟨by simp[h.1,k.1],fun i y hi=>?_⟩
 by_cases hlt:i<as.length
 ·rw[List.getElem?_append_left hlt]at hi
  obtain⟨v,a,b⟩:=h.2 i y hi
  exact⟨v,by rw[Array.getElem?_append_left (by have:=h.1;omega)];exact a,b⟩
 ·rw[List.getElem?_append_right (by omega)]at hi
  obtain⟨v,a,b⟩:=k.2 _ y hi
  exact⟨v,by rw[Array.getElem?_append_right (by have:=h.1;omega),←h.1];exact a,b⟩
theorem Oz {f:Nat} (hf:Agn P f) (args:Array Value) (w:World):(callFunc f args).run P w=.ok (.enter f args) w:=by
 obtain⟨fn,h1,h2,h3⟩:=hf
 have h4:¬fn.body=none:=by intro h;rw[h]at h2;cases h2
 have h5 : ¬ fn.name = "runtime.NumGoroutine" := by simpa using h3
 simp[callFunc,h1,h4,h5]
theorem Ws {xs:List Operand} {x y:AO} (h:Bz xs=some [x,y]):∃ox oy,xs=[ox,oy]∧Ai ox=some x∧Ai oy=some y:=by
 rcases xs with _|⟨a,_|⟨b,_|⟨c,l⟩⟩⟩
 ·simp[Bz]at h
 ·simp only[Bz]at h
  split at h<;>simp_all
 ·simp only[Bz]at h
  split at h
  ·rename_i p q h1 h2
   split at h2
   ·rename_i p' q' h3 h4
    simp only[Option.some.injEq]at h2 h4 h
    subst h4;subst h2
    simp only[List.cons.injEq,and_true]at h
    obtain⟨rfl,rfl⟩:=h
    exact⟨a,b,rfl,h1,h3⟩
   ·cases h2
  ·cases h
 ·exfalso
  have:(Bz (a::b::c::l)).all (fun r=>r.length≥3):=by
   simp only[Bz]
   split
   ·rename_i p q h1 h2
    split at h2
    ·rename_i p' q' h3 h4
     split at h4
     ·simp only[Option.some.injEq]at h2 h4;subst h4;subst h2;simp
     ·cases h4
    ·cases h2
   ·rfl
  rw[h]at this
  simp at this
theorem Zf {xs:List Operand} {x:AO} (h:Bz xs=some [x]):∃ox,xs=[ox]∧Ai ox=some x:=by
 rcases xs with _|⟨a,_|⟨b,l⟩⟩
 ·simp[Bz]at h
 ·simp only[Bz]at h
  split at h
  ·rename_i p q h1 h2
   simp only[Option.some.injEq]at h2
   subst h2
   simp only[Option.some.injEq,List.cons.injEq,and_true]at h
   exact⟨a,rfl,by rw[h1,h]⟩
  ·cases h
 ·exfalso
  have:(Bz (a::b::l)).all (fun r=>r.length≥2):=by
   simp only[Bz]
   split
   ·rename_i p q h1 h2
    split at h2
    ·simp only[Option.some.injEq]at h2;subst h2;simp
    ·cases h2
   ·rfl
  rw[h]at this
  simp at this
theorem Gi {env:Env} {a:Act} (hE:Ak w Z φ ctr env a.tmps) {x:Option Operand} {y:Option AO} (h:Fp x=some y):Nq w Z φ ctr env y (x.map a.eval):=by
 cases x with
 |none=>simp only[Fp,Option.some.injEq]at h;subst h;trivial
 |some x=>
  simp only[Fp,Option.map_eq_some_iff]at h
  obtain⟨y',hy,rfl⟩:=h
  exact Aa hE hy
theorem Me {xs:Array Operand} {a b:Operand} (h:xs.toList=[a,b]):xs=#[a,b]:=by
 apply Array.ext';simpa using h
theorem PW {xs:Array Operand} {a:Operand} (h:xs.toList=[a]):xs=#[a]:=by
 apply Array.ext';simpa using h
theorem Aai {C:Aq} (hC:Ar P C) {o:Oper} {a:Act} {next:Act→World→Prop} {Q:Exit→Act→World→Prop} {f:Nat} {args:List AV} {vs:Array Value} {out:AL} {m:Mode}
 (hI:Inv w0 B s Z φ w) (hargs:Dx w Z φ s.ctr args vs) (hev:AZ C m f args s=some (out,s')) (hrun:(execOp a.eval o).run P w=(callFunc f vs).run P w)
 (hok:∀v,out=.ok v→TR w0 B w Z φ s.ctr s' v fun x w'=>next (a.put o.dst x) w')
 (YA:∀v,out=.Ee v→TR w0 B w Z φ s.ctr s' v fun x w'=>Q (.panic [{v:=x,recovered:=false}]) a w'):o.wp P a w next Q:=by
 have hs:=TP hC m f args s out s' hev
 unfold Oper.wp
 rw[hrun]
 rcases hs w0 B Z φ w vs hI hargs with⟨hf,hs⟩|⟨x,hx,Z',φ',h1,h2,h3⟩
 case inr=>
  rw[hx]
  cases out with
  |ok v=>
   obtain⟨x',hxe,hr⟩:=h3
   cases hxe
   exact hok v rfl x w Z' φ' h1 hr h2
  |Ee v=>
   obtain⟨x',hxe,_⟩:=h3
   cases hxe
 rw[Oz hf]
 refine Calls.mono hs fun e w' ⟨Z',φ',h1,h2,h3⟩=>?_
 cases out with
 |ok v=>
  obtain⟨x,rfl,hr⟩:=h3
  exact hok v rfl x w' Z' φ' h1 hr h2
 |Ee v=>
  obtain⟨x,rfl,hr⟩:=h3
  exact YA v rfl x w' Z' φ' h1 hr h2
theorem val_ok {r:Result Value} {v:AV} (h:Qc w0 B w Z φ s.ctr s' v r) {next:Value→World→Prop} (hn:TR w0 B w Z φ s.ctr s' v next):∃x w',r=.ok x w'∧next x w':=by
 obtain⟨x,w',Z',φ',h1,h2,h3,h4⟩:=h
 exact⟨x,w',h1,hn x w' Z' φ' h2 h3 h4⟩
def BN.plain:BN→Bool
 | .panic _| .call .. | .Gz ..=>false
 |_=>true
theorem CY {C:Aq} {ao:BN} {env:Env} {out:AL} (hp:ao.plain=true) (hev:Ae C ao env s=some (out,s')):∃v,out=.ok v:=by
 cases out with
 |ok v=>exact⟨v,rfl⟩
 |Ee v=>
  exfalso
  cases ao<;>simp only[BN.plain,Bool.false_eq_true]at hp<;>simp only[Ae,ok]at hev
  all_goals (repeat' split at hev)
  all_goals first
   |(simp at hev;done)
   |(simp only[Option.map_eq_some_iff,Prod.mk.injEq,reduceCtorEq,false_and,and_false,exists_false]at hev;done)
set_option maxHeartbeats 4000000 in
theorem Ab5 {C:Aq} (hC:Ar P C) {o:Oper} {ann:Option FZ} {ao:BN} (hc:Jd P o ann=some ao) {a:Act} {env:Env} (hI:Inv w0 B s Z φ w) (hE:Ak w Z φ s.ctr env a.tmps) {out:AL} (hev:Ae C ao env s=some (out,s'))
 {next:Act→World→Prop} {Q:Exit→Act→World→Prop}
 (hok:∀v,out=.ok v→TR w0 B w Z φ s.ctr s' v fun x w'=>next (a.put o.dst x) w')
 (YA:∀v,out=.Ee v→TR w0 B w Z φ s.ctr s' v fun x w'=>Q (.panic [{v:=x,recovered:=false}]) a w'):o.wp P a w next Q:=by
 have FP:∀{x:Value} (_:(execOp a.eval o).run P w=.ok (.value x) w) {v:AV} (_:out=.ok v) (_:s'=s) (_:Rep w Z φ s.ctr v x),o.wp P a w next Q:=by
  intro x h1 v h2 h3 h4
  subst h3
  exact AQ h1 ((hok v h2).same hI h4)
 unfold Jd at hc
 split at hc
 ·
  rename_i x ho
  simp only[Option.map_eq_some_iff]at hc
  obtain⟨y,hy,rfl⟩:=hc
  simp only[Ae,Option.some.injEq,Prod.mk.injEq]at hev
  exact FP (by simp[execOp,ho]) hev.1.symm hev.2.symm (Aa hE hy)
 ·
  rename_i x ho
  split at hc
  ·split at hc
   ·rename_i e hx hu
    simp only[Option.map_eq_some_iff]at hc
    obtain⟨es,hes,rfl⟩:=hc
    obtain⟨_,_,_,h0⟩:=DN hes
    obtain⟨v,rfl⟩:=CY rfl hev
    obtain⟨φ',k1,k2,k3⟩:=RS hI h0 hev
    exact AQ (x:=.slice none 0 0) (w':=w) (by simp[execOp,ho,Act.eval]) (hok v rfl _ _ _ _ k1 k2 k3)
   ·cases hc
  ·simp only[Option.map_eq_some_iff]at hc
   obtain⟨y,hy,rfl⟩:=hc
   simp only[Ae,Option.some.injEq,Prod.mk.injEq]at hev
   exact FP (by simp[execOp,ho]) hev.1.symm hev.2.symm (Aa hE hy)
 ·
  rename_i c x y ho
  split at hc
  ·rename_i c' x' y' h1 h2 h3
   simp only[Option.some.injEq]at hc
   subst hc
   have hrc:=Aa hE h1
   simp only[Ae]at hev
   split at hev
   ·rename_i hb
    rw[hb]at hrc
    simp only[Option.some.injEq,Prod.mk.injEq]at hev
    generalize hq:a.eval c=q at hrc
    cases hrc
    exact FP (x:=a.eval x) (by simp[execOp,ho,hq,asBool]) hev.1.symm hev.2.symm (Aa hE h2)
   ·rename_i hb
    rw[hb]at hrc
    simp only[Option.some.injEq,Prod.mk.injEq]at hev
    generalize hq:a.eval c=q at hrc
    cases hrc
    exact FP (x:=a.eval y) (by simp[execOp,ho,hq,asBool]) hev.1.symm hev.2.symm (Aa hE h3)
   ·cases hev
  ·cases hc
 ·
  rename_i t ho
  split at hc
  ·split at hc
   ·rename_i hz
    simp only[Option.some.injEq]at hc
    subst hc
    obtain⟨v,rfl⟩:=CY rfl hev
    obtain⟨x,w',hr,hn⟩:=val_ok (YN (P:=P) hI hz hev (.tuple #[])) (hok v rfl)
    exact AQ (by simp[execOp,ho,hr]) hn
   ·cases hc
  ·simp only[Option.map_eq_some_iff,Prod.exists]at hc
   obtain⟨n,z,hz,rfl⟩:=hc
   obtain⟨v,rfl⟩:=CY rfl hev
   obtain⟨x,w',hr,hn⟩:=val_ok (AaQ (P:=P) hI hz hev (.tuple #[])) (hok v rfl)
   exact AQ (by simp[execOp,ho,hr]) hn
 ·
  rename_i t x ho
  split at hc
  ·rename_i n y h1 h2
   simp only[Option.some.injEq]at hc
   subst hc
   obtain⟨v,rfl⟩:=CY rfl hev
   obtain⟨z,w',hr,hn⟩:=val_ok (Ael (P:=P) hI h1 (Aa hE h2) rfl hev) (hok v rfl)
   exact AQ (by simp[execOp,ho,hr]) hn
  ·cases hc
 ·
  rename_i t parts ho
  split at hc
  ·rename_i n z hz
   have hshape:∃qs,ao=.build z qs∧((∃ fs:Array Field,P.underlying t=some (.struct fs)∧fs.toList.all (fun f=>(Ba P f.type).isSome)=true∧Ns P fs.toList parts.toList=some qs)∨
    (∃ len e es,P.underlying t=some (.array len e)∧Ba P e=some es∧Iy es parts.toList=some qs)):=by
        split at hc
        ·rename_i fs hu
         split at hc
         ·rename_i hall
          simp only[Option.map_eq_some_iff]at hc
          obtain⟨qs,hq,rfl⟩:=hc
          exact⟨qs,rfl,.inl ⟨fs,hu,hall,hq⟩⟩
         ·cases hc
        ·rename_i k e hu
         split at hc
         ·rename_i es hes
          simp only[Option.map_eq_some_iff]at hc
          obtain⟨qs,hq,rfl⟩:=hc
          exact⟨qs,rfl,.inr ⟨k,e,es,hu,hes,hq⟩⟩
         ·cases hc
        ·cases hc
   obtain⟨qs,rfl,hp⟩:=hshape
   obtain⟨v,rfl⟩:=CY rfl hev
   obtain⟨x,k1,k2,k3⟩:=AaS hE hz hp hev
   exact FP (by simp only[execOp,ho,Sem.run_bind,k1,Result.andThen_ok,Sem.run_pure]) rfl k3 k2
  ·cases hc
 ·
  rename_i t len parts ho
  split at hc
  ·rename_i e hu
   split at hc
   ·rename_i es z ps h1 h2
    split at hc
    ·rename_i hlen
     simp only[Option.some.injEq]at hc
     subst hc
     generalize hown:(match ann with|some FZ.own=>true|_=>false)=own at hev
     obtain⟨v,rfl⟩:=CY rfl hev
     obtain⟨x,w',hr,hn⟩:=val_ok (Aem hI hu h1 hlen hE h2 hev) (hok v rfl)
     exact AQ (by simp only[execOp,ho,Sem.run_bind,hr,Result.andThen_ok,Sem.run_pure]) hn
    ·cases hc
   ·cases hc
  ·cases hc
 ·
  rename_i t x ho
  split at hc
  ·rename_i sz y h1 h2
   simp only[Option.some.injEq]at hc
   subst hc
   obtain⟨v,rfl⟩:=CY rfl hev
   obtain⟨z,k1,k2,k3⟩:=Acf hI h1 (Aa hE h2) rfl hev
   exact FP (by simp[execOp,ho,k1]) rfl k3 k2
  ·cases hc
 ·
  rename_i t x y ho
  split at hc
  ·rename_i n x' y' h1 h2 h3
   simp only[Option.some.injEq]at hc
   subst hc
   obtain⟨v,rfl⟩:=CY rfl hev
   obtain⟨rfl,w',k1,k2,k3⟩:=AaR hI h1 (Aa hE h2) (Aa hE h3) rfl rfl hev
   exact JR (w':=w') (by simp[execOp,ho,k1]) (hok _ rfl undef w' Z φ k2 .undef k3)
  ·cases hc
 ·
  rename_i x ho
  simp only[Option.map_eq_some_iff]at hc
  obtain⟨y,hy,rfl⟩:=hc
  have hr:=Aa hE hy
  simp only[Ae]at hev
  split at hev
  ·rename_i hv
   rw[hv]at hr
   simp only[Option.some.injEq,Prod.mk.injEq]at hev
   generalize hq:a.eval x=q at hr
   have hr':=hr
   cases hr
   exact FP (by simp[execOp,ho,hq]) hev.1.symm hev.2.symm hr'
  ·rename_i hv
   rw[hv]at hr
   simp only[Option.some.injEq,Prod.mk.injEq]at hev
   generalize hq:a.eval x=q at hr
   have hr':=hr
   cases hr
   exact FP (by simp[execOp,ho,hq]) hev.1.symm hev.2.symm hr'
  ·rename_i hv
   rw[hv]at hr
   simp only[Option.some.injEq,Prod.mk.injEq]at hev
   generalize hq:a.eval x=q at hr
   have hr':=hr
   cases hr
   exact FP (by simp[execOp,ho,hq]) hev.1.symm hev.2.symm hr'
  ·cases hev
 ·
  rename_i op t x y yt ho
  split at hc
  ·rename_i x' y' h1 h2
   simp only[Option.some.injEq]at hc
   subst hc
   simp only[Ae,ok,Option.map_eq_some_iff,Prod.mk.injEq]at hev
   obtain⟨v,hb,rfl,rfl⟩:=hev
   obtain⟨z,k1,k2⟩:=Aei (P:=P) (ox:=x) (oy:=y) (Aa hE h1) (Aa hE h2) hb
   exact FP (by simp only[execOp,ho];simp only[Sem.run_bind]at k1 ⊢;rw[k1];rfl) rfl rfl k2
  ·cases hc
 ·
  rename_i op t x ho
  simp only[Option.map_eq_some_iff]at hc
  obtain⟨y,hy,rfl⟩:=hc
  obtain⟨v,rfl⟩:=CY rfl hev
  obtain⟨z,k1,k2,k3⟩:=Agj (P:=P) (Aa hE hy) rfl hev
  exact FP (by simp[execOp,ho,k1]) rfl k3 k2
 ·
  rename_i src dst x ho
  split at hc
  ·rename_i k' k x' h1 h2 h3
   simp only[Option.some.injEq]at hc
   subst hc
   obtain⟨v,rfl⟩:=CY rfl hev
   obtain⟨z,k1,k2,k3⟩:=Acm h1 h2 (Aa hE h3) rfl hev
   exact FP (by simp[execOp,ho,k1]) rfl k3 k2
  ·rename_i x' h1 h2 h3
   simp only[Option.some.injEq]at hc
   subst hc
   obtain⟨v,rfl⟩:=CY rfl hev
   obtain⟨z,k1,k2,k3⟩:=AaO h1 h2 (Aa hE h3) rfl hev
   exact FP (by simp[execOp,ho,k1]) rfl k3 k2
  ·cases hc
 ·
  rename_i t x ho
  split at hc
  ·cases hc
  ·rename_i d hd hu
   simp only[Option.map_eq_some_iff]at hc
   obtain⟨y,hy,rfl⟩:=hc
   simp only[Ae]at hev
   split at hev
   ·simp only[Option.some.injEq,Prod.mk.injEq]at hev
    refine FP (x:=.iface t (a.eval x)) ?_ hev.1.symm hev.2.symm (.iface _ _ _ (Aa hE hy))
    simp only[execOp,ho,Sem.run_bind,Instr.makeInterface,run_underlying hu,Result.andThen_ok]
    cases d<;>first|rfl|exact(hd _ rfl).elim
   ·cases hev
  ·cases hc
 ·
  rename_i f fs caps ho
  split at hc
  ·rename_i hz
   simp only[Option.map_eq_some_iff]at hc
   obtain⟨ys,hy,rfl⟩:=hc
   simp only[Ae,Option.some.injEq,Prod.mk.injEq]at hev
   obtain rfl:fs=#[]:=by simpa using hz
   have hargs:=Wq hE hy
   refine FP (x:=.func (.func f) #[] (caps.map a.eval)) (by simp[execOp,ho,Instr.makeFunc]) hev.1.symm hev.2.symm (.fn _ _ _ hargs.1 fun i c hi=>?_)
   obtain⟨v,k1,k2⟩:=hargs.2 i c hi
   rw[F8 (v:=v) (by simpa using k1)]
   exact k2
  ·cases hc
 ·
  rename_i t ho
  simp only[Option.some.injEq]at hc
  subst hc
  obtain⟨v,rfl⟩:=CY rfl hev
  obtain⟨x,w',hr,hn⟩:=val_ok (Abm (P:=P) hI t hev) (hok v rfl)
  exact AQ (by simp[execOp,ho,hr]) hn
 ·
  rename_i t l c ho
  split at hc
  ·rename_i e hu
   split at hc
   ·rename_i es z i l' c' h1 h2 h3 h4
    split at hc
    ·rename_i hb0
     simp only[Option.some.injEq]at hc
     subst hc
     obtain⟨v,rfl⟩:=CY rfl hev
     obtain⟨x,w',hr,hn⟩:=val_ok (Xp hI hu h1 h2 rfl hb0 (Aa hE h3) (Aa hE h4) rfl rfl hev) (hok v rfl)
     exact AQ (by simp[execOp,ho,hr]) hn
    ·cases hc
   ·cases hc
  ·cases hc
 ·
  rename_i t x lo hi mx ho
  split at hc
  ·rename_i e x' hu hx
   split at hc
   ·rename_i es lo' hi' hes hlo hhi
    simp only[Option.some.injEq]at hc
    subst hc
    obtain⟨v,rfl⟩:=CY rfl hev
    obtain⟨z,k1,k2,k3⟩:=AaN hI hu hes (Aa hE hx) (Gi hE hlo) (Gi hE hhi) rfl hev
    exact FP (by simp[execOp,ho,k1]) rfl k3 k2
   ·cases hc
  ·rename_i x' hu hx
   split at hc
   ·rename_i lo' hi' hlo hhi
    simp only[Option.some.injEq]at hc
    subst hc
    obtain⟨v,rfl⟩:=CY rfl hev
    obtain⟨z,k1,k2,k3⟩:=YM hu (Aa hE hx) (Gi hE hlo) (Gi hE hhi) rfl hev
    exact FP (by simp[execOp,ho,k1]) rfl k3 k2
   ·cases hc
  ·rename_i e x' mx' hu hx
   split at hc
   ·rename_i hz
    simp only[Option.some.injEq]at hc
    subst hc
    simp only[Bool.and_eq_true,Bool.or_eq_true]at hz
    obtain⟨⟨⟨hz1,hz2⟩,hz3⟩,hz4⟩:=hz
    obtain⟨es,hes⟩:=Option.isSome_iff_exists.1 hz4
    have zero:∀{x:Option Operand},isZero x=true→∃k,x=some (.const (.int k 0)):=by
     intro x h
     unfold isZero at h
     split at h
     ·exact⟨_,rfl⟩
     ·cases h
    obtain⟨k1,rfl⟩:=zero hz2
    obtain⟨k2,hk2⟩:=zero hz3
    simp only[Option.some.injEq]at hk2
    subst hk2
    obtain⟨v,rfl⟩:=CY rfl hev
    have hlo:lo.map a.eval=none∨∃k,lo.map a.eval=some (.int k 0):=by
     rcases hz1 with h|h
     ·left;cases lo<;>simp_all
     ·right;obtain⟨k,rfl⟩:=zero h;exact⟨k,rfl⟩
    obtain⟨z,q1,q2,q3⟩:=YL hI hu hes (Aa hE hx) (WG:=some (.int k1 0)) (k1:=k1) (k2:=k2) (vmx:=.int k2 0) hlo rfl rfl rfl hev
    have e1:a.eval (.const (.int k1 0))=.int k1 0:=rfl
    have e2:a.eval (.const (.int k2 0))=.int k2 0:=rfl
    exact FP (by simp only[execOp,ho,Option.map_some,e1,e2,Sem.run_bind,q1,Result.andThen_ok,Sem.run_pure]) rfl q3 q2
   ·cases hc
  ·cases hc
 ·
  rename_i t x f ho
  split at hc
  ·rename_i fs x' hu hx
   split at hc
   ·rename_i fd hf
    simp only[Option.map_eq_some_iff]at hc
    obtain⟨n,hn,rfl⟩:=hc
    obtain⟨v,rfl⟩:=CY rfl hev
    obtain⟨z,k1,k2,k3⟩:=AaI hu (by rw[Aj]at hf;simpa using hf) hn (Aa hE hx) rfl rfl hev
    exact FP (by simp[execOp,ho,k1]) rfl k3 k2
   ·cases hc
  ·cases hc
 ·
  rename_i t x f ho
  split at hc
  ·rename_i fs x' hu hx
   split at hc
   ·rename_i fd hf
    simp only[Option.map_eq_some_iff]at hc
    obtain⟨sz,hn,rfl⟩:=hc
    obtain⟨v,rfl⟩:=CY rfl hev
    obtain⟨z,k1,k2,k3⟩:=AaP hu (by rw[Aj]at hf;simpa using hf) hn (Aa hE hx) rfl hev
    exact FP (by simp[execOp,ho,k1]) rfl k3 k2
   ·cases hc
  ·cases hc
 ·
  rename_i t x i ho
  split at hc
  ·rename_i e x' i' hu hx hi
   simp only[Option.map_eq_some_iff]at hc
   obtain⟨es,hes,rfl⟩:=hc
   obtain⟨v,rfl⟩:=CY rfl hev
   obtain⟨z,k1,k2,k3⟩:=AaL hI hu hes (Aa hE hx) (Aa hE hi) rfl rfl hev
   exact FP (by simp[execOp,ho,k1]) rfl k3 k2
  ·rename_i n e x' i' hu hx hi
   simp only[Option.map_eq_some_iff]at hc
   obtain⟨es,hes,rfl⟩:=hc
   obtain⟨v,rfl⟩:=CY rfl hev
   obtain⟨z,k1,k2,k3⟩:=AaM hu hes (Aa hE hx) (Aa hE hi) rfl rfl hev
   exact FP (by simp[execOp,ho,k1]) rfl k3 k2
  ·cases hc
 ·
  rename_i t x i ho
  split at hc
  ·rename_i x' i' hu hx hi
   simp only[Option.some.injEq]at hc
   subst hc
   obtain⟨v,rfl⟩:=CY rfl hev
   obtain⟨z,k1,k2,k3⟩:=Ack hu (Aa hE hx) (Aa hE hi) rfl rfl hev
   exact FP (by simp[execOp,ho,k1]) rfl k3 k2
  ·rename_i n e x' i' hu hx hi
   split at hc
   ·rename_i es sz hes hsz
    simp only[Option.some.injEq]at hc
    subst hc
    obtain⟨v,rfl⟩:=CY rfl hev
    obtain⟨z,k1,k2,k3⟩:=Acj hu hes hsz (Aa hE hx) (Aa hE hi) rfl rfl hev
    exact FP (by simp[execOp,ho,k1]) rfl k3 k2
   ·cases hc
  ·cases hc
 ·
  rename_i t m k QH ho
  split at hc
  ·rename_i kt e m' k' hu hm hk
   split at hc
   ·rename_i l n z hl hz
    simp only[Option.some.injEq]at hc
    subst hc
    obtain⟨v,rfl⟩:=CY rfl hev
    obtain⟨x,k1,k2,k3⟩:=Zb hI hu hl hz (Aa hE hm) (Aa hE hk) rfl rfl hev
    exact FP (by simp[execOp,ho,k1]) rfl k3 k2
   ·cases hc
  ·cases hc
 ·
  rename_i t m k x ho
  split at hc
  ·rename_i kt e m' k' x' hu hm hk hx
   simp only[Option.map_eq_some_iff]at hc
   obtain⟨l,hl,rfl⟩:=hc
   obtain⟨v,rfl⟩:=CY rfl hev
   obtain⟨rfl,w',k1,k2,k3⟩:=TG hI hu hl (Aa hE hm) (Aa hE hk) (Aa hE hx) rfl rfl rfl hev
   exact JR (w':=w') (by simp[execOp,ho,k1]) (hok _ rfl undef w' Z φ k2 .undef k3)
  ·cases hc
 ·
  rename_i t m k x ho
  split at hc
  ·rename_i kt e m' k' x' hu hm hk hx
   simp only[Option.map_eq_some_iff]at hc
   obtain⟨l,hl,rfl⟩:=hc
   obtain⟨v,rfl⟩:=CY rfl hev
   obtain⟨rfl,w',k1,k2,k3⟩:=TG hI hu hl (Aa hE hm) (Aa hE hk) (Aa hE hx) rfl rfl rfl hev
   exact JR (w':=w') (by simp[execOp,ho,k1]) (hok _ rfl undef w' Z φ k2 .undef k3)
  ·cases hc
 ·
  rename_i x i ho
  simp only[Option.map_eq_some_iff]at hc
  obtain⟨y,hy,rfl⟩:=hc
  obtain⟨v,rfl⟩:=CY rfl hev
  obtain⟨z,k1,k2,k3⟩:=Aek (P:=P) (Aa hE hy) rfl hev
  exact FP (by simp[execOp,ho,k1]) rfl k3 k2
 ·
  rename_i x ho
  simp only[Option.map_eq_some_iff]at hc
  obtain⟨y,hy,rfl⟩:=hc
  have hr:=Aa hE hy
  simp only[Ae]at hev
  split at hev
  ·rename_i t u hv
   rw[hv]at hr
   simp only[Option.some.injEq,Prod.mk.injEq]at hev
   obtain⟨rfl,rfl⟩:=hev
   generalize hq:a.eval x=q at hr
   have hr':=hr
   cases hr with
   |iface _ _ u' hu=>
    have:=(YA _ rfl).same hI hr'
    unfold Oper.wp
    have hrun:(execOp a.eval o).run P w=.halt (.panic (.iface t u')) w:=by simp[execOp,ho,hq,Instr.panic]
    rw[hrun]
    exact this
  ·cases hev
 ·
  rename_i c ho
  unfold XE at hc
  split at hc
  ·
   rename_i f args Lp hargs
   simp only[Option.some.injEq]at hc
   subst hc
   simp only[Ae]at hev
   exact Aai hC hI (Wq hE hargs) hev (by
        simp only[execOp,ho,resolve,Lp,Act.eval,Deferred.ofValue,Sem.run_bind,Sem.run_pure,Result.andThen_ok,invoke,Array.empty_append,Array.append_empty]) hok YA
  ·
   rename_i t args Lp hargs
   simp only[Option.some.injEq]at hc
   subst hc
   have hr:=hE t
   simp only[Ae,AO.val]at hev
   split at hev
   ·rename_i f caps hv
    rw[hv]at hr
    have hr2:=hr
    generalize hq:a.tmps.getD t undef=q at hr
    cases hr with
    |fn _ _ vs hl hrs=>
     have AiT:Dx w Z φ s.ctr caps vs:=⟨hl,fun i y hi=>by
      have hlt:i<vs.size:=by
       have:=(List.getElem?_eq_some_iff.1 hi).1
       omega
      refine⟨vs[i],Array.getElem?_eq_getElem hlt,?_⟩
      have:=hrs i y hi
      simpa[Array.getD_eq_getD_getElem?,Array.getElem?_eq_getElem hlt]using this⟩
     exact Aai hC hI ((Wq hE hargs).append AiT) hev (by
      simp only[execOp,ho,resolve,Lp,Act.eval,hq,Deferred.ofValue,Sem.run_bind,Sem.run_pure,Result.andThen_ok,invoke,Array.empty_append]) hok YA
   ·cases hev
  ·
   rename_i x Lp hargs
   obtain⟨ox,hl,hx⟩:=Zf hargs
   have hca:=PW hl
   split at hc
   ·rename_i t ht
    have key:∀k,((k=.str∧P.underlying t=some .string)∨(k=.slice∧∃e,P.underlying t=some (.slice e))∨(k=.map∧∃a e,P.underlying t=some (.map a e)))→ao=.len k x→o.wp P a w next Q:=by
     intro k hk hao
     subst hao
     obtain⟨v,rfl⟩:=CY rfl hev
     obtain⟨z,k1,k2,k3⟩:=Aej (ty:=o.type) hI hk (Aa hE hx) rfl hev
     have hat:c.argTypes[0]?=some t:=by rw[Aj]at ht;simpa using ht
     refine FP (x:=z) ?_ rfl k3 k2
     simp only[execOp,ho,resolve,Lp,Sem.run_bind,Sem.run_pure,Result.andThen_ok,invoke,builtin,hca]
     have:(Builtin.len_ c.argTypes o.type (#[ox].map a.eval)).run P w=.ok z w:=by
      rw[← k1]
      simp[Builtin.len_,hat]
     rw[this];rfl
    split at hc
    ·rename_i hu
     simp only[Option.some.injEq]at hc
     exact key .str (.inl ⟨rfl,hu⟩) hc.symm
    ·rename_i e hu
     simp only[Option.some.injEq]at hc
     exact key .slice (.inr (.inl ⟨rfl,e,hu⟩)) hc.symm
    ·rename_i k e hu
     simp only[Option.some.injEq]at hc
     exact key .map (.inr (.inr ⟨rfl,k,e,hu⟩)) hc.symm
    ·cases hc
   ·cases hc
  ·
   rename_i x y Lp hargs
   obtain⟨ox,oy,hl,hx,hy⟩:=Ws hargs
   have hca:=Me hl
   simp only[Option.some.injEq]at hc
   subst hc
   obtain⟨v,rfl⟩:=CY rfl hev
   obtain⟨z,k1,k2,k3⟩:=(RJ (P:=P) (Aa hE hx) (Aa hE hy) rfl rfl c.argTypes o.type).1 hev
   refine FP (x:=z) ?_ rfl k3 k2
   simp only[execOp,ho,resolve,Lp,Sem.run_bind,Sem.run_pure,Result.andThen_ok,invoke,builtin,hca]
   have:(Builtin.min_ c.argTypes o.type (#[ox,oy].map a.eval)).run P w=.ok z w:=by rw[← k1];simp
   rw[this];rfl
  ·
   rename_i x y Lp hargs
   obtain⟨ox,oy,hl,hx,hy⟩:=Ws hargs
   have hca:=Me hl
   simp only[Option.some.injEq]at hc
   subst hc
   obtain⟨v,rfl⟩:=CY rfl hev
   obtain⟨z,k1,k2,k3⟩:=(RJ (P:=P) (Aa hE hx) (Aa hE hy) rfl rfl c.argTypes o.type).2 hev
   refine FP (x:=z) ?_ rfl k3 k2
   simp only[execOp,ho,resolve,Lp,Sem.run_bind,Sem.run_pure,Result.andThen_ok,invoke,builtin,hca]
   have:(Builtin.max_ c.argTypes o.type (#[ox,oy].map a.eval)).run P w=.ok z w:=by rw[← k1];simp
   rw[this];rfl
  ·
   rename_i x y Lp hargs
   obtain⟨ox,oy,hl,hx,hy⟩:=Ws hargs
   have hca:=Me hl
   split at hc
   ·rename_i t t' hat
    split at hc
    ·rename_i e hu
     split at hc
     ·rename_i es z i hz hi
      split at hc
      ·rename_i hcond
       obtain⟨hb0,rfl⟩:=hcond
       simp only[Option.some.injEq]at hc
       subst hc
       obtain⟨v,rfl⟩:=CY rfl hev
       have Ali:c.argTypes=#[t,t]:=by apply Array.ext';simpa using hat
       simp only[Ae]at hev
       split at hev
       ·rename_i ys cl hys
        simp only[Option.map_eq_some_iff,Prod.mk.injEq,AL.ok.injEq,Prod.exists]at hev
        obtain⟨v',s1,hap,rfl,rfl⟩:=hev
        obtain⟨x',w',hr,hn⟩:=val_ok (YO (ty:=o.type) hI hu hz hi rfl hb0 (Aa hE hx) (Aa hE hy) hys hap) (hok _ rfl)
        refine AQ (x:=x') (w':=w') ?_ hn
        simp only[execOp,ho,resolve,Lp,Sem.run_bind,Sem.run_pure,Result.andThen_ok,invoke,builtin,hca,Ali]
        have:(Builtin.append_ #[t,t] o.type (#[ox,oy].map a.eval)).run P w=.ok x' w':=by rw[← hr];simp
        rw[this];rfl
       ·cases hev
      ·cases hc
     ·cases hc
    ·cases hc
   ·cases hc
  ·
   rename_i x Lp hargs
   obtain⟨ox,hl,hx⟩:=Zf hargs
   have hca:=PW hl
   split at hc
   ·rename_i t hat
    split at hc
    ·rename_i e hu
     split at hc
     ·rename_i es z hz
      simp only[Option.some.injEq]at hc
      subst hc
      obtain⟨v,rfl⟩:=CY rfl hev
      obtain⟨rfl,w',k1,k2,k3⟩:=AaW (ty:=o.type) hI hu hz (Aa hE hx) rfl hev
      refine AQ (x:=undef) (w':=w') ?_ (hok _ rfl undef w' Z φ k2 .undef k3)
      have hat':c.argTypes=#[t]:=by
       have:=congrArg List.toArray hat
       simpa using this
      simp only[execOp,ho,resolve,Lp,Sem.run_bind,Sem.run_pure,Result.andThen_ok,invoke,builtin,hca]
      have:(Builtin.clear_ c.argTypes o.type (#[ox].map a.eval)).run P w=.ok (.tuple #[]) w':=by rw[hat',←k1];simp
      rw[this];rfl
     ·cases hc
    ·cases hc
   ·cases hc
  ·
   rename_i m k Lp hargs
   obtain⟨om,ok',hl,hm,hk⟩:=Ws hargs
   have hca:=Me hl
   split at hc
   ·rename_i t ts hat
    split at hc
    ·rename_i kt e hu
     simp only[Option.map_eq_some_iff]at hc
     obtain⟨l,hlf,rfl⟩:=hc
     obtain⟨v,rfl⟩:=CY rfl hev
     have Alj:c.argTypes[0]?=some t:=by
      have:c.argTypes.toList[0]?=some t:=by rw[hat];rfl
      simpa using this
     obtain⟨rfl,w',k1,k2,k3⟩:=Zc (ty:=o.type) hI hu Alj hlf (Aa hE hm) (Aa hE hk) rfl rfl hev
     refine AQ (x:=undef) (w':=w') ?_ (hok _ rfl undef w' Z φ k2 .undef k3)
     simp only[execOp,ho,resolve,Lp,Sem.run_bind,Sem.run_pure,Result.andThen_ok,invoke,builtin,hca]
     have:(Builtin.delete_ c.argTypes o.type (#[om,ok'].map a.eval)).run P w=.ok undef w':=by rw[← k1];simp
     rw[this];rfl
    ·cases hc
   ·cases hc
  ·
   rename_i x Lp hargs
   obtain⟨ox,hl,hx⟩:=Zf hargs
   have hca:=PW hl
   split at hc
   ·rename_i t ht
    split at hc
    ·rename_i e hu
     simp only[Option.some.injEq]at hc
     subst hc
     simp only[Ae]at hev
     split at hev<;>first|(rename_i h _;cases h;done)|skip
     ·rename_i _ hv
      simp only[Option.some.injEq,Prod.mk.injEq]at hev
      have hr:=Aa hE hx
      rw[hv]at hr
      generalize hq:a.eval ox=q at hr
      have hat:c.argTypes[0]?=some t:=by rw[Aj]at ht;simpa using ht
      cases hr
      refine FP (x:=.int .i64 0) ?_ hev.1.symm hev.2.symm (.int _ _)
      simp only[execOp,ho,resolve,Lp,Sem.run_bind,Sem.run_pure,Result.andThen_ok,invoke,builtin,hca]
      have:(Builtin.cap_ c.argTypes o.type (#[ox].map a.eval)).run P w=.ok (.int .i64 0) w:=by
       simp[Builtin.cap_,hat,hq,run_underlying hu,goInt]
      rw[this];rfl
     ·cases hev
    ·cases hc
   ·cases hc
  ·cases hc
 ·cases hc
end AI
end Go.Proofs.YtiimoiecghmebaaDoor
