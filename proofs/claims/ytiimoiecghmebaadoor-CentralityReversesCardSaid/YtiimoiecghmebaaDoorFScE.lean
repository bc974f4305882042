/- A map's entry that is named first and written behind. -/
import Derived.Test.YtiimoiecghmebaaDoorFSc
namespace Go.Proofs.YtiimoiecghmebaaDoor
namespace AI
open Go.RowKit
variable {P:Program} {B:Nat} {w w' w0:World} {Z Z':Bh} {φ φ':D8} {ctr BX:Nat} {s s':Ag}
theorem LC {t:TypeId} {b i:Nat} {n:Int} {es:Array MapEntry} {clock:Nat} {vx:Value} (hb:w.heap[b]?=some (.map es clock)) (hf:es.findIdx? (fun e=>(e.born:Int)==n)=some i):
 (Instr.entryStore t (.map (some b)) (.int .i64 n) vx).run P w=.ok () {w with heap:=w.heap.setIfInBounds b (.map (es.modify i fun e=>{e with val:=vx}) clock)}:=by
 simp[Instr.entryStore,asInt,asIntOf,Dl hb,hf,Fq hb]
theorem WB (es:Array MapEntry) (i:Nat) (f g:MapEntry→MapEntry):(es.modify i f).modify i g=es.modify i fun e=>g (f e):=by
 apply Array.ext
 ·simp
 ·intro j h1 h2
  simp only[Array.getElem_modify]
  split<;>rfl
theorem Ye (es:Array MapEntry) (x:MapEntry) (g:MapEntry→MapEntry):(es.push x).modify es.size g=es.push (g x):=by
 apply Array.ext
 ·simp
 ·intro j h1 h2
  simp only[Array.getElem_modify,Array.getElem_push]
  by_cases hj:j<es.size
  ·simp[hj];omega
  ·have:es.size=j:=by simp at h1;omega
   simp[this]
theorem find_born {es:Array MapEntry} {clock:Nat} (h:Yh es clock) {i:Nat} {x:MapEntry} (hi:es[i]?=some x):es.findIdx? (fun e=>(e.born:Int)==(x.born:Int))=some i:=by
 rw[Array.findIdx?_eq_some_iff_getElem]
 obtain⟨hlt,rfl⟩:=Array.getElem?_eq_some_iff.1 hi
 refine⟨hlt,by simp,fun j hj=>?_⟩
 simp only[beq_iff_eq]
 intro he
 have:=(List.getElem_inj (h₀:=by simp;omega) (h₁:=by simpa using hlt) h.1 (i:=j) (j:=i)).1 (by simp;exact_mod_cast he)
 omega
theorem AaH (hI:Inv w0 B s Z φ w) {t kt e:TypeId} (hu:P.underlying t=some (.map kt e)) {ne:Nat} {ze:AV} (hze:Et P e=some (ne,ze)) {l:IQ} (hl:EJ P kt=some l) {m k x v:AV} {vm vk vx:Value} (hm:Rep w Z φ s.ctr m vm) (hk:Rep w Z φ s.ctr k vk) (hx:Rep w Z φ s.ctr x vx)
 {C:Aq} {env:Env} {am ak ax:AO} (h1:am.val env=m) (h2:ak.val env=k) (h3:ax.val env=x) (hev:Ae C (.mapset l am ak ax) env s=some (.ok v,s')):
 v=.undef∧∃w1 xv n w',(Instr.mapEntry t vm vk).run P w=.ok (.tuple #[xv,.int .i64 n]) w1∧(Instr.entryStore t vm (.int .i64 n) vx).run P w1=.ok () w'∧Inv w0 B s' Z φ w'∧Later B w Z φ s.ctr w' Z φ s'.ctr:=by
 obtain⟨iz,zv,hiz,_,_,hzv,_,_,_⟩:=D5 hze
 have hzr:=C9 hiz hzv w
 simp only[Ae,h1,h2,h3]at hev
 split at hev
 ·rename_i o g
  split at hev
  ·rename_i g' cl ents ho
   split at hev
   ·rename_i hc
    obtain⟨rfl,hko,hst⟩:=hc
    rw[Aj]at ho
    obtain⟨b,e1,n1,es,clock,rfl,hφ,hB,hb,he⟩:=Mc hI ho hm
    have hck:=run_checkKey (w:=w) (Z:=Z) (φ:=φ) (ctr:=s.ctr) hl hko hk false 9999
    split at hev
    ·rename_i i y hf
     simp only[Option.some.injEq,Prod.mk.injEq,AL.ok.injEq]at hev
     obtain⟨rfl,rfl⟩:=hev
     rcases run_findKey (P:=P) hl hk he hf with⟨h,_⟩|⟨j,k',y',e',h,hj,hj',hrun,hq⟩
     ·cases h
     ·simp only[Option.some.injEq,Prod.mk.injEq]at h
      obtain⟨rfl,rfl⟩:=h
      obtain⟨e'',q1,q2,q3,q4,q5⟩:=he.2 i _ hj
      rw[hj']at q1
      cases q1
      have hsb:=OV hk q2 hq
      have hE:Fe w Z φ s.ctr (cl&&x.closed) (ents.set i (k,x)) (es.modify i fun e=>{e with key:=vk,val:=vx}):=by
       refine⟨by simpa using he.1,fun j' e0 hj0=>?_⟩
       by_cases hji:j'=i
       ·subst hji
        have hlt:j'<ents.length:=(List.getElem?_eq_some_iff.1 hj).1
        rw[List.getElem?_set_self hlt]at hj0
        simp only[Option.some.injEq]at hj0
        subst hj0
        refine⟨{e' with key:=vk,val:=vx},by simp[Array.getElem?_modify,hj'],hk,hx,hst,fun h=>?_⟩
        simp only[Bool.and_eq_true]at h
        exact h.2
       ·rw[List.getElem?_set_ne (fun h=>hji h.symm)]at hj0
        obtain⟨e2,r1,r2,r3,r4,r5⟩:=he.2 j' e0 hj0
        refine⟨e2,by simp[Array.getElem?_modify,Ne.symm hji,r1],r2,r3,r4,fun h=>?_⟩
        simp only[Bool.and_eq_true]at h
        exact r5 h.1
      obtain⟨k1,k2⟩:=hI.TF (clock':=clock) ho hφ hb hB hE (NI (H8 hI ho hφ hb) _ _ fun _=>rfl)
      have hlt:b<w.heap.size:=(Array.getElem?_eq_some_iff.1 hb).1
      have hst1:Yh (es.modify i fun e=>{e with key:=vk}) clock:=NI (H8 hI ho hφ hb) _ _ fun _=>rfl
      have hb1:({w with heap:=w.heap.setIfInBounds b (.map (es.modify i fun e=>{e with key:=vk}) clock)}:World).heap[b]?=some (.map (es.modify i fun e=>{e with key:=vk}) clock):=by simp[hlt]
      have hf1:=find_born hst1 (i:=i) (x:={e' with key:=vk}) (by simp[Array.getElem?_modify,hj'])
      refine⟨rfl,{w with heap:=w.heap.setIfInBounds b (.map (es.modify i fun e=>{e with key:=vk}) clock)},e'.val,e'.born,_,?_,?_,k1,k2⟩
      ·simp only[Instr.mapEntry,Sem.run_bind,run_underlying hu,Result.andThen_ok,Dl hb,hck,hrun,hj',Option.map_some,Option.getD_some,Instr.keyThatStays,hsb,if_true,Sem.run_pure,Fq hb,goInt]
      ·rw[LC hb1 hf1,WB,Array.setIfInBounds_setIfInBounds]
    ·rename_i hf
     simp only[Option.some.injEq,Prod.mk.injEq,AL.ok.injEq]at hev
     obtain⟨rfl,rfl⟩:=hev
     rcases run_findKey (P:=P) hl hk he hf with⟨_,hrun⟩|⟨j,k',y',e',h,_⟩
     ·have hE:Fe w Z φ s.ctr (cl&&x.closed) (ents++[(k,x)]) (es.push {key:=vk,val:=vx,born:=clock}):=by
       refine⟨by simpa using he.1,fun j' e0 hj0=>?_⟩
       by_cases hji:j'<ents.length
       ·rw[List.getElem?_append_left hji]at hj0
        obtain⟨e2,r1,r2,r3,r4,r5⟩:=he.2 j' e0 hj0
        refine⟨e2,?_,r2,r3,r4,fun h=>?_⟩
        ·rw[Array.getElem?_push,if_neg (by have:=he.1;omega)];exact r1
        ·simp only[Bool.and_eq_true]at h
         exact r5 h.1
       ·have hj1:j'=ents.length:=by
               have:=(List.getElem?_eq_some_iff.1 hj0).1
               simp at this;omega
        subst hj1
        simp at hj0
        subst hj0
        refine⟨{key:=vk,val:=vx,born:=clock},?_,hk,hx,hst,fun h=>?_⟩
        ·rw[← he.1];simp
        ·simp only[Bool.and_eq_true]at h
         exact h.2
      obtain⟨k1,k2⟩:=hI.TF (clock':=clock+1) ho hφ hb hB hE (TD (H8 hI ho hφ hb))
      have hlt:b<w.heap.size:=(Array.getElem?_eq_some_iff.1 hb).1
      have hst1:Yh (es.push {key:=vk,val:=zv,born:=clock}) (clock+1):=TD (H8 hI ho hφ hb)
      have hb1:({w with heap:=w.heap.setIfInBounds b (.map (es.push {key:=vk,val:=zv,born:=clock}) (clock+1))}:World).heap[b]?=some (.map (es.push {key:=vk,val:=zv,born:=clock}) (clock+1)):=by simp[hlt]
      have hf1:=find_born hst1 (i:=es.size) (x:={key:=vk,val:=zv,born:=clock}) (by simp)
      refine⟨rfl,{w with heap:=w.heap.setIfInBounds b (.map (es.push {key:=vk,val:=zv,born:=clock}) (clock+1))},zv,clock,_,?_,?_,k1,k2⟩
      ·simp only[Instr.mapEntry,Sem.run_bind,run_underlying hu,Result.andThen_ok,Dl hb,hck,hrun,Fq hb,hzr,goInt,Sem.run_pure]
      ·rw[LC hb1 hf1,Ye,Array.setIfInBounds_setIfInBounds]
     ·cases h
    ·cases hev
   ·cases hev
  ·cases hev
 ·cases hev
end AI
end Go.Proofs.YtiimoiecghmebaaDoor
