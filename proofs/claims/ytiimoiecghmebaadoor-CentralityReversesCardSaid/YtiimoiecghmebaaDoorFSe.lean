/- Regions whose operations commute, first part: an operation looks at its footprint alone. Regions whose operations commute, second part: reserved generations; the effects of a set of operations. Regions whose operations commute, third part: the effects of a set of operations; the head in whatever order. Regions whose operations commute, fourth part: the head in whatever order. Soundness, seventeenth part: code, functions, the evaluator. Tables of functions; the evaluator grows with its fuel. -/
import Derived.Test.YtiimoiecghmebaaDoorFSd
import Derived.LoopN
namespace Go.Proofs.YtiimoiecghmebaaDoor
namespace AI
open Go.RowKit
variable {s s2 s':Ag} {env:Env} {C:Aq}
theorem Ac5 {o:BN} (hc:o.cls=some .e) {out:AL} (h:Ae C o env s=some (out,s')) (s2:Ag):Ae C o env s2=some (out,s2):=by
 have hcall:∀{f:Nat} {args:List AV},AZ C .pure f args s=some (out,s')→AZ C .pure f args s2=some (out,s2):=by
  intro f args h
  simp only[AZ]at h ⊢
  split at h
  ·rename_i hcl
   rw[if_pos hcl]
   rw[Option.map_eq_some_iff]at h ⊢
   obtain⟨r,h1,h2⟩:=h
   rw[Prod.mk.injEq]at h2
   exact⟨r,h1,by rw[h2.1]⟩
  ·cases h
 cases o<;>simp only[BN.cls,Option.some.injEq,reduceCtorEq]at hc
 case call m f args=>
  cases m<;>simp only[reduceCtorEq,Option.some.injEq]at hc
  exact hcall h
 case Gz m x args=>
  cases m<;>simp only[reduceCtorEq,Option.some.injEq]at hc
  simp only[Ae]at h ⊢
  split at h
  ·rename_i hv
   exact hcall h
  ·cases h
 case lit own es z len parts=>
  cases own
  ·simp only[Ae]at h ⊢
   (repeat' split at h)<;>simp_all
  ·simp at hc
 case min x y=>
  simp only[Ae]at h ⊢
  split at h
  ·simp only[Option.some.injEq,Prod.mk.injEq]at h ⊢
   exact⟨h.1,trivial⟩
  ·cases h
 case max x y=>
  simp only[Ae]at h ⊢
  split at h
  ·simp only[Option.some.injEq,Prod.mk.injEq]at h ⊢
   exact⟨h.1,trivial⟩
  ·cases h
 all_goals
  simp only[Ae,ok]at h ⊢
  (repeat' split at h)<;>first|(simp_all;done)|(simp_all;obtain⟨a,h1,h2,_⟩:=h;exact⟨a,h1,h2⟩)
theorem AgK {o:BN} (hc:o.cls=some .r) {out:AL} (h:Ae C o env s=some (out,s')) (s2:Ag) (hag:∀t∈Dh env o.Bl,nth s2.σ t=nth s.σ t):Ae C o env s2=some (out,s2):=by
 cases o<;>simp only[BN.cls,Option.some.injEq,reduceCtorEq]at hc
 case call m f args=>cases m<;>simp at hc
 case Gz m f args=>cases m<;>simp at hc
 case lit own es z len parts=>cases own<;>simp at hc
 case lookup t z QH m k=>
  simp only[BN.Bl,Dh,List.mem_append,List.append_nil]at hag
  have fin:∀{r:Option (Option (Nat×AV))},(match r with
        |some r=>some (AL.ok (if QH=true then .Dy [(match r with|some (_,v)=>v|none=>z),.bool r.isSome]else(match r with|some (_,v)=>v|none=>z)),s)
        |none=>none)=some (out,s')→(match r with
        |some r=>some (AL.ok (if QH=true then .Dy [(match r with|some (_,v)=>v|none=>z),.bool r.isSome]else(match r with|some (_,v)=>v|none=>z)),s2)
        |none=>none)=some (out,s2):=by
   intro r h
   cases r with
   |none=>cases h
   |some r=>simp only[Option.some.injEq,Prod.mk.injEq]at h ⊢;exact⟨h.1,trivial⟩
  simp only[Ae]at h ⊢
  cases hm:m.val env with
  |map o g=>
   have:=hag o (.inl (by simp[hm,AV.obj]))
   simp only[hm,this]at h ⊢
   exact fin h
  |Cj=>simp only[hm]at h ⊢;exact fin h
  |fmap ents=>simp only[hm]at h ⊢;exact fin h
  |_=>simp only[hm]at h;cases h
 all_goals
  simp only[BN.Bl,Dh,List.mem_append,List.append_nil]at hag
  simp only[Ae,ok]at h ⊢
  (repeat' split at h)<;>first|(simp_all [AV.obj];done)|(simp_all [AV.obj];obtain⟨a,h1,h2,_⟩:=h;exact⟨a,h1,h2⟩)
theorem Ac6 {l:List Obj} {t:Nat} {ob:Obj} (h:nth l t=some ob):l.set t ob=l:=by
 rw[Aj]at h
 obtain⟨hlt,rfl⟩:=List.getElem?_eq_some_iff.1 h
 exact List.set_getElem_self hlt
theorem Bj {α:Type} {l:List α} {t:Nat} {x:α} (h:nth l t=some x):t<l.length:=by
 rw[Aj]at h
 exact(List.getElem?_eq_some_iff.1 h).1
theorem AgL {o:BN} (hc:o.cls=some .w) {v:AV} (h:Ae C o env s=some (.ok v,s')) (r:Nat):
 ∃t ob,o.writes r env=[t]∧t∈Dh env o.Bl∧t<s.σ.length∧∀s2:Ag,(∀ t∈Dh env o.Bl,nth s2.σ t=nth s.σ t)→Ae C o env s2=some (.ok v,⟨s2.σ.set t ob,s2.ctr⟩):=by
 cases o<;>simp only[BN.cls,Option.some.injEq,reduceCtorEq]at hc
 case call m f args=>cases m<;>simp at hc
 case Gz m f args=>cases m<;>simp at hc
 case lit own es z len parts=>cases own<;>simp at hc
 case store sz a x=>
  simp only[Ae]at h
  split at h
  ·rename_i o g i off hv
   have hmem:o∈Dh env (BN.store sz a x).Bl:=by simp[BN.Bl,Dh,hv,AV.obj]
   split at h
   ·rename_i g' es nn cl elems ho
    split at h
    ·rename_i hg
     split at h
     ·rename_i y hy
      split at h
      ·rename_i hcond
       simp only[Option.some.injEq,Prod.mk.injEq,AL.ok.injEq]at h
       obtain⟨rfl,_⟩:=h
       refine⟨o,(.arr g' es nn (cl&&(x.val env).closed) (elems.set i (Bg y off (x.val env)))),by simp[BN.writes,hv,AV.obj],hmem,Bj ho,fun s2 hag=>?_⟩
       simp only[Ae,hv,hag o hmem,ho,if_pos hg,hy,hcond,if_true]
      ·cases h
     ·cases h
    ·cases h
   ·cases h
  ·cases h
 case mapset t m k x=>
  simp only[Ae]at h
  split at h
  ·rename_i o g hv
   have hmem:o∈Dh env (BN.mapset t m k x).Bl:=by simp[BN.Bl,Dh,hv,AV.obj]
   split at h
   ·rename_i g' cl ents ho
    split at h
    ·rename_i hcond
     split at h
     ·rename_i i u hf
      simp only[Option.some.injEq,Prod.mk.injEq,AL.ok.injEq]at h
      obtain⟨rfl,_⟩:=h
      refine⟨o,(.mp g' (cl&&(x.val env).closed) (ents.set i (k.val env,x.val env))),by simp[BN.writes,hv,AV.obj],hmem,Bj ho,fun s2 hag=>?_⟩
      simp only[Ae,hv,hag o hmem,ho,if_pos hcond,hf]
     ·rename_i hf
      simp only[Option.some.injEq,Prod.mk.injEq,AL.ok.injEq]at h
      obtain⟨rfl,_⟩:=h
      refine⟨o,(.mp g' (cl&&(x.val env).closed) (ents++[(k.val env,x.val env)])),by simp[BN.writes,hv,AV.obj],hmem,Bj ho,fun s2 hag=>?_⟩
      simp only[Ae,hv,hag o hmem,ho,if_pos hcond,hf]
     ·cases h
    ·cases h
   ·cases h
  ·cases h
 case delete t m k=>
  simp only[Ae]at h
  split at h
  ·rename_i o g hv
   have hmem:o∈Dh env (BN.delete t m k).Bl:=by simp[BN.Bl,Dh,hv,AV.obj]
   split at h
   ·rename_i g' cl ents ho
    split at h
    ·rename_i hcond
     split at h
     ·rename_i i u hf
      simp only[Option.some.injEq,Prod.mk.injEq,AL.ok.injEq]at h
      obtain⟨rfl,_⟩:=h
      refine⟨o,(.mp g' cl (ents.eraseIdx i)),by simp[BN.writes,hv,AV.obj],hmem,Bj ho,fun s2 hag=>?_⟩
      simp only[Ae,hv,hag o hmem,ho,if_pos hcond,hf]
     ·rename_i hf
      simp only[Option.some.injEq,Prod.mk.injEq,AL.ok.injEq]at h
      obtain⟨rfl,_⟩:=h
      refine⟨o,.mp g' cl ents,by simp[BN.writes,hv,AV.obj],hmem,Bj ho,fun s2 hag=>?_⟩
      have h2:=hag o hmem
      simp only[Ae,hv,h2,ho,if_pos hcond,hf]
      rw[Ac6 (h2.trans ho)]
     ·cases h
    ·cases h
   ·cases h
  ·cases h
 case clear es x=>
  simp only[Ae]at h
  split at h
  ·rename_i o g off len hv
   have hmem:o∈Dh env (BN.clear es x).Bl:=by simp[BN.Bl,Dh,hv,AV.obj]
   split at h
   ·rename_i g' es' nn cl elems ho
    split at h
    ·rename_i hcond
     simp only[Option.some.injEq,Prod.mk.injEq,AL.ok.injEq]at h
     obtain⟨rfl,_⟩:=h
     refine⟨o,(.arr g' es' nn cl (if len=0 then elems else elems.take off)),by simp[BN.writes,hv,AV.obj],hmem,Bj ho,fun s2 hag=>?_⟩
     simp only[Ae,hv,hag o hmem,ho,if_pos hcond]
    ·cases h
   ·cases h
  ·cases h
inductive Made:(Nat→Nat→AV)→(Nat→Obj)→Prop where
 |own (off len es:Nat) (nn cl:Bool) (elems:List AV):Made (fun t g=>.own t g off len) (fun g=>.arr g es nn cl elems)
 |ref (es:Nat) (nn cl:Bool) (elems:List AV):Made (fun t g=>.ref t g 0 0) (fun g=>.arr g es nn cl elems)
 |map (cl:Bool) (ents:List (AV×AV)):Made (fun t g=>.map t g) (fun g=>.mp g cl ents)
theorem AgM {o:BN} (hc:o.cls=some .a) {v:AV} (h:Ae C o env s=some (.ok v,s')) (r:Nat):
 ∃i mk ob,Made mk ob∧(i=s.σ.length∨(i<s.σ.length∧i∈o.writes r env∧i∈Dh env o.Bl))∧r∈o.writes r env∧
  ∀s2:Ag,s2.σ.length=s.σ.length→(∀ t∈Dh env o.Bl,nth s2.σ t=nth s.σ t)→Ae C o env s2=some (.ok (mk i s2.ctr),⟨if i=s.σ.length then s2.σ++[ob s2.ctr]else s2.σ.set i (ob s2.ctr),s2.ctr+1⟩):=by
 have hown:∀{f:Nat} {args:List AV},AZ C .own f args s=some (.ok v,s')→∃mk ob,Made mk ob∧∀s2:Ag,s2.σ.length=s.σ.length→AZ C .own f args s2=some (.ok (mk s.σ.length s2.ctr),⟨s2.σ++[ob s2.ctr],s2.ctr+1⟩):=by
  intro f args h
  simp only[AZ]at h
  split at h
  ·rename_i hcl
   split at h
   ·rename_i o g off len s1 hcall
    split at h
    ·rename_i g' es nn cl elems ho
     split at h
     ·rename_i hcond
      refine⟨_,_,.own 0 len es nn cl elems,fun s2 hl=>?_⟩
      simp only[AZ,if_pos hcl,hcall,ho,if_pos hcond,hl]
      rfl
     ·cases h
    ·cases h
   ·rename_i s1 hcall
    simp only[Option.some.injEq,Prod.mk.injEq,AL.ok.injEq]at h
    obtain⟨rfl,rfl⟩:=h
    refine⟨_,_,.own 0 0 1 false true [],fun s2 hl=>?_⟩
    simp only[AZ,if_pos hcl,hcall,hl]
    rfl
   ·cases h
  ·cases h
 cases o<;>simp only[BN.cls,Option.some.injEq,reduceCtorEq]at hc
 case call m f args=>
  cases m<;>simp only[reduceCtorEq,Option.some.injEq]at hc
  simp only[Ae]at h
  obtain⟨mk,ob,hm,hk⟩:=hown h
  exact⟨_,mk,ob,hm,.inl rfl,by simp[BN.writes,BN.cls],fun s2 hl _=>by simp only[Ae,hk s2 hl,if_true]⟩
 case Gz m x args=>
  cases m<;>simp only[reduceCtorEq,Option.some.injEq]at hc
  simp only[Ae]at h
  split at h
  ·rename_i hv
   obtain⟨mk,ob,hm,hk⟩:=hown h
   exact⟨_,mk,ob,hm,.inl rfl,by simp[BN.writes,BN.cls],fun s2 hl _=>by simp only[Ae,hv,hk s2 hl,if_true]⟩
  ·cases h
 case lit own es z len parts=>
  cases own
  ·simp at hc
  ·simp only[Ae]at h
   split at h
   ·rename_i hl
    exact⟨_,_,_,.own 0 len es true (Hl (Pn env parts)) (Bo z len (Pn env parts) 0),.inl rfl,by simp[BN.writes,BN.cls],fun s2 hl2 _=>by simp only[Ae,if_pos hl,if_true,hl2,push]⟩
   ·cases h
 case Jb es=>
  exact⟨_,_,_,.own 0 0 es false true [],.inl rfl,by simp[BN.writes,BN.cls],fun s2 hl2 _=>by simp only[Ae,if_true,hl2,push]⟩
 case alloc es z=>
  exact⟨_,_,_,.ref es true z.closed [z],.inl rfl,by simp[BN.writes,BN.cls],fun s2 hl2 _=>by simp only[Ae,if_true,hl2,push]⟩
 case box es x=>
  simp only[Ae]at h
  split at h
  ·rename_i hl
   exact⟨_,_,_,.ref es true (x.val env).closed [x.val env],.inl rfl,by simp[BN.writes,BN.cls],fun s2 hl2 _=>by simp only[Ae,if_pos hl,if_true,hl2,push]⟩
  ·cases h
 case NT=>
  exact⟨_,_,_,.map true [],.inl rfl,by simp[BN.writes,BN.cls],fun s2 hl2 _=>by simp only[Ae,if_true,hl2,push]⟩
 case Hg es bytes z len cap=>
  simp only[Ae]at h
  split at h
  ·rename_i k l k' c hl hcp
   split at h
   ·rename_i hcond
    exact⟨_,_,_,.own 0 l.toNat es true z.closed (List.replicate l.toNat z),.inl rfl,by simp[BN.writes,BN.cls],fun s2 hl2 _=>by simp only[Ae,hl,hcp,if_pos hcond,if_true,hl2,push]⟩
   ·cases h
  ·cases h
 case append es bytes a x=>
  have hr:r∈(BN.append es bytes a x).writes r env:=by simp[BN.writes]
  simp only[Ae]at h
  split at h
  ·rename_i ys cl hel
   have AgN:∀s2:Ag,(∀ t∈Dh env (BN.append es bytes a x).Bl,nth s2.σ t=nth s.σ t)→elemsOf s2 es (x.val env)=some (ys,cl):=by
        intro s2 hag
        simp only[BN.Bl,Dh,List.mem_append,List.append_nil]at hag
        generalize hx:x.val env=xv at hel hag
        cases xv with
        |own o g off len=>simp only[elemsOf]at hel ⊢;rw[hag o (.inr (by simp[AV.obj]))];exact hel
        |sl nn xs=>exact hel
        |zc=>exact hel
        |_=>cases hel
   rw[Option.map_eq_some_iff]at h
   obtain⟨⟨v1,s1⟩,h1,h2⟩:=h
   have hv1:v1=v:=by simpa using(Prod.mk.inj h2).1
   clear h2
   subst hv1
   generalize ha:a.val env=av at h1
   simp only[FX]at h1
   split at h1
   ·split at h1
    ·rename_i hcond
     exact⟨_,_,_,.own 0 ys.length es (!ys.isEmpty) cl ys,.inl rfl,hr,fun s2 hl2 hag=>by simp only[Ae,AgN s2 hag,ha,FX,if_pos hcond,if_true,hl2,push,Option.map_some]⟩
    ·cases h1
   ·split at h1
    ·rename_i hcond
     exact⟨_,_,_,.own 0 ys.length es true cl ys,.inl rfl,hr,fun s2 hl2 hag=>by simp only[Ae,AgN s2 hag,ha,FX,if_pos hcond,if_true,hl2,push,Option.map_some]⟩
    ·cases h1
   ·rename_i o g len
    have hmem:o∈Dh env (BN.append es bytes a x).Bl:=by simp[BN.Bl,Dh,ha,AV.obj]
    split at h1
    ·rename_i g' es' nn cl' elems ho
     split at h1
     ·rename_i hcond
      have hlt:=Bj ho
      refine⟨o,_,_,.own 0 (len+ys.length) es (nn||!ys.isEmpty) (cl'&&cl) (elems.take len++ys),.inr ⟨hlt,by simp[BN.writes,ha,AV.obj],hmem⟩,hr,fun s2 hl2 hag=>?_⟩
      have hne:o≠s.σ.length:=by omega
      simp only[Ae,AgN s2 hag,ha,FX,hag o hmem,ho,if_pos hcond,if_neg hne,Option.map_some]
     ·cases h1
    ·cases h1
   ·cases h1
  ·cases h
end AI
end Go.Proofs.YtiimoiecghmebaaDoor
namespace Go.Proofs.YtiimoiecghmebaaDoor
namespace AI
open Go.RowKit
variable {P:Program} {B:Nat} {w w' w0:World} {Z Z':Bh} {φ φ':D8} {ctr BX:Nat} {s s':Ag}
theorem Rep.fill (h:∀g,g<ctr→φ g≠.pend→φ' g=φ g) (hc:ctr≤BX) {a:AV} {v:Value} (r:Rep w Z φ ctr a v):Rep w Z φ' BX a v:=by
 have ne:∀{g:Nat} {p:NQ},p≠.pend→g<ctr→φ g=p→φ' g=p:=fun hp hg e=>(h _ hg (by rw[e];exact hp)).trans e
 induction r with
 |bool b=>exact .bool b
 |int k n=>exact .int k n
 |str s l hs=>exact .str s l hs
 |EI=>exact .EI
 |sl xs n b off cap es f hn hcap hes hsz hcell hr ih=>exact .sl xs n b off cap es f hn hcap hes hsz hcell ih
 |sl0 a0=>exact .sl0 a0
 |zc a0=>exact .zc a0
 |own o g off len b es size cap a hg hφ hcap ha hs=>exact .own o g off len b es size cap a (Nat.lt_of_lt_of_le hg hc) (ne (by simp) hg hφ) hcap ha hs
 |BP o g hg hφ=>exact .BP o g (Nat.lt_of_lt_of_le hg hc) (ne (by simp) hg hφ)
 |Dz o g a0 hg hφ=>exact .Dz o g a0 (Nat.lt_of_lt_of_le hg hc) (ne (by simp) hg hφ)
 |agg cs vs hl ho hr ih=>exact .agg cs vs hl ho ih
 |Dy cs vs hl hr ih=>exact .Dy cs vs hl ih
 |ref o g i off b es size hg hφ=>exact .ref o g i off b es size (Nat.lt_of_lt_of_le hg hc) (ne (by simp) hg hφ)
 |CS cs b off f hcell hr ih=>exact .CS cs b off f hcell ih
 |fn f cs vs hl hr ih=>exact .fn f cs vs hl ih
 |map o g b es size hg hφ=>exact .map o g b es size (Nat.lt_of_lt_of_le hg hc) (ne (by simp) hg hφ)
 |fmap ents b es clock f hz hw hst hn hf hk hv ihk ihv=>exact .fmap ents b es clock f hz hw hst hn hf ihk ihv
 |iface t v x hr ih=>exact .iface t v x ih
 |IL=>exact .IL
 |Cj=>exact .Cj
 |ET=>exact .ET
 |Gl=>exact .Gl
 |undef=>exact .undef
 |junk v=>exact .junk v
theorem Holds.fill (h:∀g,g<ctr→φ g≠.pend→φ' g=φ g) (hc:ctr≤BX) {c:Array Value} {es:Nat} {cl:Bool} {elems:List AV} (hH:Holds w Z φ ctr c es cl elems):Holds w Z φ' BX c es cl elems:=by
 intro i x hx
 obtain⟨h1,h2⟩:=hH i x hx
 refine⟨h1,fun j y hy=>?_⟩
 obtain⟨v,h3,h4,h5,h6⟩:=h2 j y hy
 exact⟨v,h3,h4.fill h hc,h5,h6⟩
theorem DI.Ll {ob:Obj} (h:DI w Z φ ctr B ob) {g:Nat} (hg:ob.gen=some g):g<ctr∧φ g≠.pend:=by
 cases ob with
 |arr g' es nn cl elems=>
  simp only[Obj.gen,Option.some.injEq]at hg
  subst hg
  refine⟨h.1,fun e=>?_⟩
  have:=h.2.2
  rw[e]at this
  exact this
 |mp g' cl ents=>
  simp only[Obj.gen,Option.some.injEq]at hg
  subst hg
  obtain⟨h1,b,es,size,h3,_⟩:=h
  exact⟨h1,fun e=>by rw[e]at h3;cases h3⟩
 |raw g' x=>
  simp only[Obj.gen,Option.some.injEq]at hg
  subst hg
  obtain⟨h1,b,es,size,h3,_⟩:=h
  exact⟨h1,fun e=>by rw[e]at h3;cases h3⟩
 |dead=>simp[Obj.gen]at hg
theorem DI.fill (h:∀g,g<ctr→φ g≠.pend→φ' g=φ g) (hc:ctr≤BX) {ob:Obj} (hO:DI w Z φ ctr B ob):DI w Z φ' BX B ob:=by
 cases ob with
 |arr g es nn cl elems=>
  have hp:=hO.Ll rfl
  obtain⟨h1,h2,h3⟩:=hO
  refine⟨Nat.lt_of_lt_of_le h1 hc,h2,?_⟩
  rw[h g h1 hp.2]
  cases hφ:φ g with
  |nil=>rw[hφ]at h3;exact h3
  |zc=>rw[hφ]at h3;exact h3
  |pend=>rw[hφ]at h3;exact h3
  |row b e n=>
   rw[hφ]at h3
   obtain⟨h4,h5,h6,h7,h8,c,t,h9,h10,h11⟩:=h3
   exact⟨h4,h5,h6,h7,h8,c,t,h9,h10,h11.fill h hc⟩
 |mp g cl ents=>
  have hp:=hO.Ll rfl
  obtain⟨h1,b,es,size,h3,h4,es',clock,h5,h6,h7⟩:=hO
  refine⟨Nat.lt_of_lt_of_le h1 hc,b,es,size,(h g h1 hp.2).trans h3,h4,es',clock,h5,h6,fun i e he=>?_⟩
  obtain⟨e',k1,k2,k3,k4,k5⟩:=h7 i e he
  exact⟨e',k1,k2.fill h hc,k3.fill h hc,k4,k5⟩
 |raw g x=>
  have hp:=hO.Ll rfl
  obtain⟨h1,b,es,size,h3,h4,h5⟩:=hO
  exact⟨Nat.lt_of_lt_of_le h1 hc,b,es,size,(h g h1 hp.2).trans h3,h4,h5⟩
 |dead=>trivial
theorem Inv.fill (h:∀g,g<s.ctr→φ g≠.pend→φ' g=φ g) (hc:s.ctr≤BX) (hI:Inv w0 B s Z φ w):Inv w0 B ⟨s.σ,BX⟩ Z φ' w:=by
 refine⟨hI.below,hI.base,fun o ob ho=>(hI.objs o ob ho).fill h hc,fun o o' ob ob' g g' b e n e' n' h1 h2 hg hg' hp hp'=>?_,hI.live⟩
 have q:=(hI.objs o ob h1).Ll hg
 have q':=(hI.objs o' ob' h2).Ll hg'
 exact hI.apart o o' ob ob' g g' b e n e' n' h1 h2 hg hg' ((h g q.1 q.2).symm.trans hp) ((h g' q'.1 q'.2).symm.trans hp')
theorem Inv.reserve (hI:Inv w0 B s Z φ w) (k m:Nat):Inv w0 B ⟨s.σ++List.replicate k .dead,s.ctr+m⟩ Z (fun g=>if g<s.ctr then φ g else .pend) w:=by
 have hf:=hI.fill (φ':=fun g=>if g<s.ctr then φ g else .pend) (BX:=s.ctr+m) (fun g hg _=>if_pos hg) (by omega)
 have look:∀(o:Nat) (ob:Obj),(s.σ++List.replicate k Obj.dead)[o]?=some ob→s.σ[o]?=some ob∨ob=.dead:=by
  intro o ob ho
  rcases Nat.lt_or_ge o s.σ.length with h|h
  ·rw[List.getElem?_append_left h]at ho;exact .inl ho
  ·rw[List.getElem?_append_right h]at ho
   exact .inr (List.eq_of_mem_replicate (List.mem_of_getElem? ho))
 refine⟨hf.below,hf.base,fun o ob ho=>?_,fun o o' ob ob' g g' b e n e' n' h1 h2 hg hg' hp hp'=>?_,hf.live⟩
 ·rcases look o ob ho with h|rfl
  ·exact hf.objs o ob h
  ·trivial
 ·rcases look o ob h1 with h|rfl
  ·rcases look o' ob' h2 with h'|rfl
   ·exact hf.apart o o' ob ob' g g' b e n e' n' h h' hg hg' hp hp'
   ·simp[Obj.gen]at hg'
  ·simp[Obj.gen]at hg
theorem Made.gen {mk:Nat→Nat→AV} {ob:Nat→Obj} (h:Made mk ob) (g:Nat):(ob g).gen=some g:=by cases h<;>rfl
theorem Made.P5 {mk:Nat→Nat→AV} {ob:Nat→Obj} (h:Made mk ob) (g g':Nat):(ob g).P5 g'=ob g':=by cases h<;>rfl
theorem Made.moved {mk:Nat→Nat→AV} {ob:Nat→Obj} (h:Made mk ob) (t g t' g':Nat):(mk t g).moved t' g'=mk t' g':=by cases h<;>rfl
theorem Made.idx {mk:Nat→Nat→AV} {ob:Nat→Obj} (h:Made mk ob) (t g:Nat):(mk t g).idx=t:=by cases h<;>rfl
theorem Made.rep {mk:Nat→Nat→AV} {ob:Nat→Obj} (h:Made mk ob) {i c t g:Nat} {x:Value} (hc:g<ctr) (hr:Rep w Z φ ctr (mk i c) x) (hφ:φ' g=φ c):Rep w Z φ' ctr (mk t g) x:=by
 cases h with
 |own off len es nn cl elems=>
  cases hr with
  |own _ _ _ _ b es size cap a hg hp hcap ha hs=>exact .own _ _ _ _ b es size cap a hc (hφ.trans hp) hcap ha hs
  |BP _ _ hg hp=>exact .BP _ _ hc (hφ.trans hp)
  |Dz _ _ a0 hg hp=>exact .Dz _ _ a0 hc (hφ.trans hp)
 |ref es nn cl elems=>
  cases hr with
  |ref _ _ _ _ b es size hg hp=>
   have:Rep w Z φ' ctr (.ref t g 0 0) (.pointer (some ⟨b,0*es+0,none⟩)):=.ref _ _ _ _ b es size hc (hφ.trans hp)
   exact this
 |map cl ents=>
  cases hr with
  |map _ _ b es size hg hp=>exact .map _ _ b es size hc (hφ.trans hp)
theorem Inv.moved {mk:Nat→Nat→AV} {ob:Nat→Obj} (hm:Made mk ob) {i t c g:Nat} (hI:Inv w0 B ⟨if i=s.σ.length then s.σ++[ob c]else s.σ.set i (ob c),c+1⟩ Z φ w) (hg:g<c) (AiM:φ g=.pend)
 (hi:i=s.σ.length∧nth s.σ t=some .dead∨i<s.σ.length∧t=i):Inv w0 B ⟨s.σ.set t (ob g),c+1⟩ Z (Bd φ g (φ c)) w:=by
 have ht:t<s.σ.length:=by
  rcases hi with⟨_,h⟩|⟨h,rfl⟩
  ·exact Bj h
  ·exact h
 have OM:=hI.fill (φ':=Bd φ g (φ c)) (BX:=c+1) (fun g' _ hp=>by
  unfold Bd
  split
  ·rename_i e;exact absurd (e▸AiM) hp
  ·rfl) (Nat.le_refl _)
 have hφg:Bd φ g (φ c) g=φ c:=Af _ _ _
 have hφc:Bd φ g (φ c) c=φ c:=by unfold Bd;split<;>rfl
 have hnew:(if i=s.σ.length then s.σ++[ob c]else s.σ.set i (ob c))[i]?=some (ob c):=by
  rcases hi with⟨h,_⟩|⟨h,_⟩
  ·rw[if_pos h,h];simp
  ·rw[if_neg (by omega),List.getElem?_set_self h]
 have hold:∀(o:Nat) (ob':Obj),o≠t→s.σ[o]?=some ob'→(if i=s.σ.length then s.σ++[ob c]else s.σ.set i (ob c))[o]?=some ob':=by
  intro o ob' hne ho
  have hlt:=(List.getElem?_eq_some_iff.1 ho).1
  rcases hi with⟨h,_⟩|⟨h,rfl⟩
  ·rw[if_pos h,List.getElem?_append_left hlt];exact ho
  ·rw[if_neg (by omega),List.getElem?_set_ne (fun e=>hne e.symm)];exact ho
 have look:∀(o:Nat) (ob':Obj),(s.σ.set t (ob g))[o]?=some ob'→(o≠t∧s.σ[o]?=some ob')∨(o=t∧ob'=ob g):=by
  intro o ob' h
  by_cases e:o=t
  ·subst e
   rw[List.getElem?_set_self ht]at h
   exact .inr ⟨rfl,(Option.some.inj h).symm⟩
  ·rw[List.getElem?_set_ne (fun h=>e h.symm)]at h
   exact .inl ⟨e,h⟩
 have hob:DI w Z (Bd φ g (φ c)) (c+1) B (ob g):=by
  have:=OM.objs i _ hnew
  cases hm with
  |own off len es nn cl elems=>
   obtain⟨_,h2,h3⟩:=this
   refine⟨by omega,h2,?_⟩
   rw[hφc]at h3
   rw[hφg]
   exact h3
  |ref es nn cl elems=>
   obtain⟨_,h2,h3⟩:=this
   refine⟨by omega,h2,?_⟩
   rw[hφc]at h3
   rw[hφg]
   exact h3
  |map cl ents=>
   obtain⟨_,b,es,size,h3,h4⟩:=this
   rw[hφc]at h3
   exact⟨by omega,b,es,size,by rw[hφg];exact h3,h4⟩
 have far:∀(o:Nat) (ob':Obj) (g' b e n e' n':Nat),o≠t→s.σ[o]?=some ob'→ob'.gen=some g'→Bd φ g (φ c) g'=.row b e n→Bd φ g (φ c) g=.row b e' n'→False:=by
  intro o ob' g' b e n e' n' hne ho hg' hp hp'
  have:=OM.apart o i ob' (ob c) g' c b e n e' n' (hold o ob' hne ho) hnew hg' (hm.gen c) hp (by rw[hφc];rw[hφg]at hp';exact hp')
  have hlt:=(List.getElem?_eq_some_iff.1 ho).1
  rcases hi with⟨h,_⟩|⟨h,rfl⟩
  ·omega
  ·exact hne this
 refine⟨OM.below,OM.base,fun o ob' ho=>?_,fun o o' VD YH g1 g2 b e n e' n' h1 h2 hg1 hg2 hp hp'=>?_,OM.live⟩
 ·rcases look o ob' ho with⟨hne,h⟩|⟨_,rfl⟩
  ·exact OM.objs o ob' (hold o ob' hne h)
  ·exact hob
 ·rcases look o VD h1 with⟨n1,k⟩|⟨ko,kb⟩<;>rcases look o' YH h2 with⟨n2,k'⟩|⟨ko',kb'⟩
  ·exact OM.apart o o' VD YH g1 g2 b e n e' n' (hold o VD n1 k) (hold o' YH n2 k') hg1 hg2 hp hp'
  ·subst kb'
   rw[hm.gen]at hg2
   cases hg2
   exact(far o VD g1 b e n e' n' n1 k hg1 hp hp').elim
  ·subst kb
   rw[hm.gen]at hg1
   cases hg1
   exact(far o' YH g2 b e' n' e n n2 k' hg2 hp' hp).elim
  ·rw[ko,ko']
end AI
end Go.Proofs.YtiimoiecghmebaaDoor
namespace Go.Proofs.YtiimoiecghmebaaDoor
namespace AI
open Go.RowKit
variable {P:Program} {B:Nat} {w w' w0:World} {Z Z':Bh} {φ φ':D8} {ctr BX:Nat} {s s':Ag}
def Eff.dv (e:Eff):Option Nat×AV:=(e.dst,e.v)
def Eff.up (e:Eff):Option Nat×Option Obj:=match e.upd with
 |some (t,ob)=>(some t,some ob)
 |none=>(none,none)
def CW (L:Nat→Bool):List Eff→Nat→Ag→Ag
 |[],_,s=>s
 |e::es,i,s=>CW L es (i+1) (if L i then Ep e.upd e.bump s else s)
def Um (L:Nat→Bool):List Eff→Nat→Nat
 |[],_=>0
 |e::es,i=>(if L i then e.bump else 0)+Um L es (i+1)
theorem ND (u:Option (Nat×Obj)) (b:Nat) (s:Ag):(Ep u b s).σ.length=s.σ.length:=by
 cases u with
 |none=>rfl
 |some p=>simp[Ep]
theorem Tc (u:Option (Nat×Obj)) (b:Nat) (s:Ag):(Ep u b s).ctr=s.ctr+b:=by
 cases u<;>rfl
theorem Gg (L:Nat→Bool):∀(es:List Eff) (i:Nat) (s:Ag),(CW L es i s).σ.length=s.σ.length
 |[],_,_=>rfl
 |e::es,i,s=>by
  simp only[CW]
  rw[Gg L es]
  split
  ·exact ND _ _ _
  ·rfl
theorem OO (L:Nat→Bool):∀(es:List Eff) (i:Nat) (s:Ag),(CW L es i s).ctr=s.ctr+Um L es i
 |[],_,_=>rfl
 |e::es,i,s=>by
  simp only[CW,Um]
  rw[OO L es]
  split
  ·rw[Tc];omega
  ·omega
theorem Jv (L:Nat→Bool) (t:Nat):∀(es:List Eff) (i:Nat) (s:Ag),t<s.σ.length→nth (CW L es i s).σ t=Jk L t (es.map Eff.up) i (nth s.σ t)
 |[],_,_,_=>rfl
 |e::es,i,s,ht=>by
  simp only[CW,List.map_cons]
  rw[show (e.up::es.map Eff.up)=((e.up.1,e.up.2)::es.map Eff.up) from rfl]
  simp only[Jk]
  rw[Jv L t es (i+1)]
  ·congr 1
   by_cases hL:L i=true
   ·simp only[hL,if_true,true_and]
    unfold Ep Eff.up
    split
    ·rename_i t' ob hu
     simp only[hu,Aj,Option.some.injEq]
     by_cases e:t'=t
     ·subst e
      rw[if_pos rfl,List.getElem?_set_self ht]
     ·rw[if_neg e,List.getElem?_set_ne e]
    ·rename_i hu
     simp[hu]
   ·simp[hL]
  ·split
   ·rw[ND];exact ht
   ·exact ht
theorem Td {L L':Nat→Bool}:∀(es:List Eff) (i:Nat),(∀ k,i≤k→L' k=L k)→Um L' es i=Um L es i
 |[],_,_=>rfl
 |e::es,i,h=>by
  simp only[Um]
  rw[h i (Nat.le_refl _),Td es (i+1) fun k hk=>h k (by omega)]
theorem XT {L L':Nat→Bool}:∀(es:List Eff) (i j:Nat) (e:Eff),es[j]?=some e→L (i+j)=false→L' (i+j)=true→(∀ k,k≠i+j→L' k=L k)→Um L' es i=Um L es i+e.bump
 |[],_,_,_,h,_,_,_=>by simp at h
 |e0::es,i,0,e,h,h0,h1,hk=>by
  simp only[List.getElem?_cons_zero,Option.some.injEq]at h
  subst h
  simp only[Nat.add_zero]at h0 h1
  simp only[Um,h0,h1,if_true,Bool.false_eq_true,if_false]
  rw[Td es (i+1) fun k hk'=>hk k (by omega)]
  omega
 |e0::es,i,j+1,e,h,h0,h1,hk=>by
  simp only[Um]
  rw[hk i (by omega),XT es (i+1) j e (by simpa using h) (by rw[← h0];congr 1;omega) (by rw[← h1];congr 1;omega) fun k hk'=>hk k (by omega)]
  omega
theorem AeO {a b:Ag} (hl:a.σ.length=b.σ.length) (h:∀t,t<a.σ.length→nth a.σ t=nth b.σ t) (hc:a.ctr=b.ctr):a=b:=by
 obtain⟨σ,c⟩:=a
 obtain⟨σ',c'⟩:=b
 simp only at hl h hc
 subst hc
 congr 1
 refine List.ext_getElem? fun t=>?_
 rcases Nat.lt_or_ge t σ.length with ht|ht
 ·have:=h t ht
  rw[Aj,Aj]at this
  exact this
 ·rw[List.getElem?_eq_none ht,List.getElem?_eq_none (by omega)]
theorem Abj {L L':Nat→Bool} {es:List Eff} {i:Nat} {e:Eff} (he:es[i]?=some e) (h0:L i=false) (h1:L' i=true) (hk:∀k,k≠i→L' k=L k)
 (hno:∀(k:Nat) (e':Eff) (t:Nat) (ob ob':Obj),i<k→es[k]?=some e'→e.upd=some (t,ob)→e'.upd=some (t,ob')→L k=false) (s:Ag):
 CW L' es 0 s=Ep e.upd e.bump (CW L es 0 s):=by
 refine AeO (by rw[Gg,ND,Gg]) (fun t ht=>?_) (by rw[OO,Tc,OO,XT es 0 i e he (by simpa using h0) (by simpa using h1) (by simpa using hk)];omega)
 rw[Gg]at ht
 rw[Jv L' t es 0 s ht]
 have hup:(es.map Eff.up)[i]?=some e.up:=by simp[he]
 cases hu:e.upd with
 |none=>
  have hue:e.up=(none,none):=by simp[Eff.up,hu]
  rw[show Ep none e.bump (CW L es 0 s)=⟨(CW L es 0 s).σ,(CW L es 0 s).ctr+e.bump⟩ from rfl,Jv L t es 0 s ht]
  refine BZ _ 0 _ fun k d v hkv hd=>?_
  rw[Nat.zero_add]
  refine hk k fun e'=>?_
  subst e'
  rw[hup,hue]at hkv
  simp only[Option.some.injEq,Prod.mk.injEq]at hkv
  rw[← hkv.1]at hd;cases hd
 |some p=>
  obtain⟨t',ob⟩:=p
  have hue:e.up=(some t',some ob):=by simp[Eff.up,hu]
  rw[hue]at hup
  rw[show (Ep (some (t',ob)) e.bump (CW L es 0 s)).σ=(CW L es 0 s).σ.set t' ob from rfl,Aj ((CW L es 0 s).σ.set t' ob)]
  by_cases e2:t'=t
  ·subst e2
   rw[List.getElem?_set_self (by rw[Gg];exact ht)]
   refine Jl (j:=i) _ 0 _ hup (by rw[Nat.zero_add];exact h1) fun k d v hkv hd hlt=>?_
   rw[Nat.zero_add,hk k (by omega)]
   rw[List.getElem?_map,Option.map_eq_some_iff]at hkv
   obtain⟨e',he',hu'⟩:=hkv
   subst hd
   cases hu2:e'.upd with
   |none=>simp[Eff.up,hu2]at hu'
   |some q=>
    obtain⟨t2,ob'⟩:=q
    simp only[Eff.up,hu2,Prod.mk.injEq,Option.some.injEq]at hu'
    obtain⟨rfl,_⟩:=hu'
    exact hno k e' t2 ob ob' hlt he' hu hu2
  ·rw[List.getElem?_set_ne e2,←Aj,Jv L t es 0 s ht]
   refine BZ _ 0 _ fun k d v hkv hd=>?_
   rw[Nat.zero_add]
   refine hk k fun e'=>?_
   subst e'
   rw[hup]at hkv
   simp only[Option.some.injEq,Prod.mk.injEq]at hkv
   rw[← hkv.1]at hd
   exact e2 (Option.some.inj hd)
theorem U1 {C:Aq}:∀{hd:List Ap} {r g:Nat} {env:Env} {s:Ag} {es:List Eff},G8 C hd r g env s=some es→es.length=hd.length∧∀(k:Nat) (o:Ap),hd[k]?=some o→∃e,es[k]?=some e∧e.dst=o.dst∧
 ∀i,(wanted o.guard (AX (fun q=>decide (q<i+k)) (es.map Eff.dv) i env)=some false∧e.v=.undef∧e.rd=[]∧e.wr=[]∧e.upd=none∧e.bump=0)∨
  (wanted o.guard (AX (fun q=>decide (q<i+k)) (es.map Eff.dv) i env)=some true∧∃r',Il C o.op r' (g+k) (AX (fun q=>decide (q<i+k)) (es.map Eff.dv) i env) (CW (fun q=>decide (q<i+k)) es i s)=some (e.v,e.upd,e.bump)∧
        e.rd=o.op.reads r' (AX (fun q=>decide (q<i+k)) (es.map Eff.dv) i env)∧e.wr=o.op.writes r' (AX (fun q=>decide (q<i+k)) (es.map Eff.dv) i env))
 |[],r,g,env,s,es,h=>by
  simp only[G8,Option.some.injEq]at h
  subst h
  exact⟨rfl,fun k o hk=>by simp at hk⟩
 |o::hd,r,g,env,s,es,h=>by
  have z:∀(e:Eff) (es':List Eff) (i:Nat),AX (fun q=>decide (q<i+0)) ((e::es').map Eff.dv) i env=env:=fun e es' i=>FH _ i env fun k _=>by simp
  have zs:∀(es':List Eff) (i j:Nat) (s:Ag),j≤i→CW (fun q=>decide (q<j)) es' i s=s:=by
   intro es'
   induction es' with
   |nil=>intro i j s _;rfl
   |cons e es' ih=>
    intro i j s hj
    simp only[CW]
    rw[if_neg (by simp;omega)]
    exact ih (i+1) j s (by omega)
  have step:∀(e:Eff) (es':List Eff),G8 C hd (r+rank o.op) (g+1) (put o.dst e.v env) (Ep e.upd e.bump s)=some es'→es=e::es'→e.dst=o.dst→
        ((wanted o.guard env=some false∧e.v=.undef∧e.rd=[]∧e.wr=[]∧e.upd=none∧e.bump=0)∨(wanted o.guard env=some true∧∃r',Il C o.op r' (g+0) env s=some (e.v,e.upd,e.bump)∧e.rd=o.op.reads r' env∧e.wr=o.op.writes r' env))→
        es.length=(o::hd).length∧∀(k:Nat) (o':Ap),(o::hd)[k]?=some o'→∃e,es[k]?=some e∧e.dst=o'.dst∧
  ∀i,(wanted o'.guard (AX (fun q=>decide (q<i+k)) (es.map Eff.dv) i env)=some false∧e.v=.undef∧e.rd=[]∧e.wr=[]∧e.upd=none∧e.bump=0)∨
   (wanted o'.guard (AX (fun q=>decide (q<i+k)) (es.map Eff.dv) i env)=some true∧∃r',Il C o'.op r' (g+k) (AX (fun q=>decide (q<i+k)) (es.map Eff.dv) i env) (CW (fun q=>decide (q<i+k)) es i s)=some (e.v,e.upd,e.bump)∧
        e.rd=o'.op.reads r' (AX (fun q=>decide (q<i+k)) (es.map Eff.dv) i env)∧e.wr=o'.op.writes r' (AX (fun q=>decide (q<i+k)) (es.map Eff.dv) i env)):=by
   intro e es' ht hes hdst hor
   obtain⟨hl,hg⟩:=U1 ht
   subst hes
   refine⟨by simp[hl],fun k o' hk=>?_⟩
   cases k with
   |zero=>
    simp only[List.getElem?_cons_zero,Option.some.injEq]at hk
    subst hk
    refine⟨e,rfl,hdst,fun i=>?_⟩
    rw[z e es' i,zs (e::es') i (i+0) s (by omega)]
    exact hor
   |succ k=>
    obtain⟨e',q1,q2,q3⟩:=hg k o' (by simpa using hk)
    refine⟨e',by simpa using q1,q2,fun i=>?_⟩
    have:=q3 (i+1)
    have e1:AX (fun q=>decide (q<i+(k+1))) ((e::es').map Eff.dv) i env=AX (fun q=>decide (q<i+1+k)) (es'.map Eff.dv) (i+1) (put o.dst e.v env):=by
      simp only[List.map_cons]
      rw[show e.dv::es'.map Eff.dv=(e.dst,e.v)::es'.map Eff.dv from rfl]
      simp only[AX]
      rw[if_pos (by simp),hdst]
      congr 1
      funext q
      rw[show i+(k+1)=i+1+k by omega]
    have e2:CW (fun q=>decide (q<i+(k+1))) (e::es') i s=CW (fun q=>decide (q<i+1+k)) es' (i+1) (Ep e.upd e.bump s):=by
      simp only[CW]
      rw[if_pos (by simp)]
      congr 1
      funext q
      rw[show i+(k+1)=i+1+k by omega]
    rw[e1,e2,show g+(k+1)=g+1+k by omega]
    exact this
  simp only[G8]at h
  split at h
  ·cases h
  ·rename_i hw
   split at h
   ·rename_i es' ht
    simp only[Option.some.injEq]at h
    exact step ⟨o.dst,.undef,[],[],none,0⟩ es' ht h.symm rfl <| .inl ⟨hw,rfl,rfl,rfl,rfl,rfl⟩
   ·cases h
  ·rename_i hw
   split at h
   ·rename_i v u b hop
    split at h
    ·rename_i es' ht
     simp only[Option.some.injEq]at h
     exact step ⟨o.dst,v,o.op.reads r env,o.op.writes r env,u,b⟩ es' ht h.symm rfl <| .inr ⟨hw,r,hop,rfl,rfl⟩
    ·cases h
   ·cases h
theorem Tf:∀(es:List Eff) (i:Nat) (env:Env),MX es env=AX (fun _=>true) (es.map Eff.dv) i env
 |[],_,_=>rfl
 |e::es,i,env=>by
  simp only[MX,List.map_cons]
  rw[show e.dv::es.map Eff.dv=(e.dst,e.v)::es.map Eff.dv from rfl]
  simp only[AX,if_true]
  exact Tf es (i+1) _
theorem Ti:∀(es:List Eff) (i:Nat) (s:Ag),KD es s=CW (fun _=>true) es i s
 |[],_,_=>rfl
 |e::es,i,s=>by
  simp only[KD,CW,if_true]
  exact Ti es (i+1) _
theorem XU {x:Nat}:∀{l:List Nat},Dp x l=true↔x∈l
 |[]=>by simp[Dp]
 |y::l=>by
  simp only[Dp]
  cases h:Nat.beq x y
  ·have:x≠y:=fun e=>by subst e;simp at h
   simp[XU (l:=l),this]
  ·have:=Nat.eq_of_beq_eq_true h
   simp[this]
theorem Ja {ys:List Nat}:∀{xs:List Nat},Po xs ys=true→∀t,t∈xs→t∈ys→False
 |[],_,t,h,_=>by simp at h
 |x::xs,h,t,h1,h2=>by
  simp only[Po]at h
  cases hm:Dp x ys
  ·rw[hm,cond_false]at h
   rcases List.mem_cons.1 h1 with rfl|h1
   ·rw[XU.2 h2]at hm;cases hm
   ·exact Ja h t h1 h2
  ·rw[hm,cond_true]at h;cases h
structure Ac7 (a b:Eff):Prop where
 wr:∀t,t∈a.wr→t∈b.rd→False
 ww:∀t,t∈a.wr→t∈b.wr→False
 rw:∀t,t∈a.rd→t∈b.wr→False
theorem MP {es:List Eff}:∀{un:List (Nat×Nat)},Jh es un=true→∀i j,(i,j)∈un→∀a b,es[i]?=some a→es[j]?=some b→Ac7 a b
 |[],_,i,j,h,_,_,_,_=>by simp at h
 |(i0,j0)::un,h,i,j,hm,a,b,ha,hb=>by
  simp only[Jh,Aj]at h
  split at h
  ·rename_i a0 b0 ha0 hb0
   simp only[Bool.and_eq_true]at h
   rcases List.mem_cons.1 hm with e|hm
   ·cases e
    rw[ha]at ha0;cases ha0
    rw[hb]at hb0;cases hb0
    have:=h.1
    simp only[WW,Bool.and_eq_true]at this
    exact⟨Ja this.1,Ja this.2.1,Ja this.2.2⟩
   ·exact MP h.2 i j hm a b ha hb
  ·cases h
theorem Ak1 {o:BN} {g:Option (Nat×Bool)} {d:Option Nat} (h:J4 ⟨d,o,g⟩=0) (r:Nat) (env:Env):o.reads r env=[]∧o.writes r env=[]:=by
 cases o<;>simp only[J4,BN.cls]at h<;>first
  |exact⟨rfl,rfl⟩
  |(cases h;done)
  |(rename_i m f xs;cases m<;>first|exact⟨rfl,rfl⟩|cases h)
  |(rename_i m f xs ys;cases m<;>first|exact⟨rfl,rfl⟩|cases h)
  |(rename_i own es z n ps;cases own<;>first|exact⟨rfl,rfl⟩|cases h)
theorem Ak2 {o:BN} {g:Option (Nat×Bool)} {d:Option Nat} (h:J4 ⟨d,o,g⟩=1) (r:Nat) (env:Env):o.writes r env=[]:=by
 cases o<;>simp only[J4,BN.cls]at h<;>first
  |rfl
  |(cases h;done)
  |(rename_i m f xs;cases m<;>first|rfl|cases h)
  |(rename_i m f xs ys;cases m<;>first|rfl|cases h)
  |(rename_i own es z n ps;cases own<;>first|rfl|cases h)
end AI
end Go.Proofs.YtiimoiecghmebaaDoor
namespace Go.Proofs.YtiimoiecghmebaaDoor
namespace AI
open Go.RowKit
variable {P:Program} {B:Nat} {w w' w0:World} {Z Z':Bh} {φ φ':D8} {ctr BX:Nat} {s s':Ag}
theorem Tj {C:Aq} {o:BN} {r g:Nat} {env:Env} {sT sL:Ag} {v:AV} {u:Option (Nat×Obj)} {b:Nat} (h:Il C o r g env sT=some (v,u,b)) (hlen:sL.σ.length=sT.σ.length)
 (hag:∀t∈o.reads r env,nth sL.σ t=nth sT.σ t):
 ∃v0 s2,Ae C o env sL=some (.ok v0,s2)∧(∀ t ob,u=some (t,ob)→t∈o.writes r env)∧
  ((v0=v∧Ep u b sL=s2)∨∃mk ob i t,Made mk ob∧v0=mk i sL.ctr∧v=mk t g∧s2=⟨if i=sL.σ.length then sL.σ++[ob sL.ctr]else sL.σ.set i (ob sL.ctr),sL.ctr+1⟩∧Ep u b sL=⟨sL.σ.set t (ob g),sL.ctr+1⟩∧
    (i=sL.σ.length∧nth sL.σ t=some .dead∨i<sL.σ.length∧t=i)):=by
 simp only[Il]at h
 split at h
 ·rename_i v' s1 hc hev
  simp only[Option.some.injEq,Prod.mk.injEq]at h
  obtain⟨rfl,rfl,rfl⟩:=h
  exact⟨v',sL,Ac5 hc hev sL,fun t ob e=>(by cases e),.inl ⟨rfl,rfl⟩⟩
 ·rename_i v' s1 hc hev
  simp only[Option.some.injEq,Prod.mk.injEq]at h
  obtain⟨rfl,rfl,rfl⟩:=h
  exact⟨v',sL,AgK hc hev sL (by simpa only[BN.reads,hc]using hag),fun t ob e=>(by cases e),.inl ⟨rfl,rfl⟩⟩
 ·rename_i v' s1 hc hev
  obtain⟨t,ob,h1,h2,h3,h4⟩:=AgL hc hev r
  have hs1:=h4 sT fun _ _=>rfl
  rw[hev]at hs1
  simp only[Option.some.injEq,Prod.mk.injEq]at hs1
  rw[h1]at h
  simp only[hs1.2,Aj,List.getElem?_set_self h3,Option.some.injEq,Prod.mk.injEq]at h
  obtain⟨rfl,rfl,rfl⟩:=h
  exact⟨v',_,h4 sL (by simpa only[BN.reads,hc]using hag),fun t' ob' e=>(by cases e;rw[h1];simp),.inl ⟨rfl,rfl⟩⟩
 ·rename_i v' s1 hc hev
  obtain⟨i,mk,ob,hm,hi,hr,h4⟩:=AgM hc hev r
  have hs1:=h4 sT rfl fun _ _=>rfl
  rw[hev]at hs1
  simp only[Option.some.injEq,Prod.mk.injEq,AL.ok.injEq]at hs1
  obtain⟨rfl,rfl⟩:=hs1
  have hag':(∀ t∈Dh env o.Bl,nth sL.σ t=nth sT.σ t)∧nth sL.σ r=nth sT.σ r:=by
   simp only[BN.reads,hc,List.mem_cons,forall_eq_or_imp]at hag
   exact⟨hag.2,hag.1⟩
  have Ak3:nth (if i=sT.σ.length then sT.σ++[ob sT.ctr]else sT.σ.set i (ob sT.ctr)) i=some (ob sT.ctr):=by
   rw[Aj]
   rcases hi with h|⟨h,_⟩
   ·rw[if_pos h,h];simp
   ·rw[if_neg (by omega),List.getElem?_set_self h]
  simp only[hm.idx,Ak3]at h
  refine⟨_,_,h4 sL hlen hag'.1,?_⟩
  split at h
  ·rename_i hlt
   simp only[Option.some.injEq,Prod.mk.injEq,hm.moved,hm.P5]at h
   obtain⟨rfl,rfl,rfl⟩:=h
   refine⟨fun t ob' e=>?_,.inr ⟨mk,ob,i,i,hm,rfl,rfl,by rw[hlen],rfl,.inr ⟨by rw[hlen];exact hlt,rfl⟩⟩⟩
   cases e
   rcases hi with h|⟨_,h,_⟩
   ·omega
   ·exact h
  ·rename_i hlt
   split at h
   ·rename_i hd
    simp only[Option.some.injEq,Prod.mk.injEq,hm.moved,hm.P5]at h
    obtain⟨rfl,rfl,rfl⟩:=h
    refine⟨fun t ob' e=>(by cases e;exact hr),.inr ⟨mk,ob,i,r,hm,rfl,rfl,by rw[hlen],rfl,.inl ⟨?_,hag'.2.trans hd⟩⟩⟩
    rcases hi with h|⟨h,_⟩
    ·rw[hlen];exact h
    ·exact absurd h hlt
   ·cases h
 ·cases h
theorem XV {ops:Array Oper} {os:List Ap} {m i j:Nat} {oi oj:Ap} (hij:i<j) (hj:j<m) (hi':os[i]?=some oi) (hj':os[j]?=some oj) (hb:((Region.before ops).getD j 0).testBit i=false)
 (h0:J4 oi≠0) (h0':J4 oj≠0) (h1:J4 oi≠1∨J4 oj≠1):(i,j)∈QZ ops os m:=by
 unfold QZ
 simp only[List.mem_flatMap,List.mem_range,List.mem_map,List.mem_filter,Prod.mk.injEq]
 refine⟨j,hj,i,⟨hij,?_⟩,rfl,rfl⟩
 simp only[hi',hj',hb,Bool.not_false,Bool.true_and,Bool.and_eq_true,bne_iff_ne,ne_eq,Bool.or_eq_true]
 exact⟨⟨h0,h0'⟩,h1⟩
theorem Un {C:Aq} (hC:Ar P C) {ops:Array Oper} {n:Nat} {an:List (Nat×FZ)} {Bl:List Ap} (hcomp:Cc P ops n an ops.toList 0=some Bl) {m:Nat} (hok:Gs ops Bl m) (hm:m≤ops.size) {Q:Exit→Act→World→Prop}
 {e:Az} {env env':Env} {s1 s':Ag} {es:List Eff} {r0 g0:Nat} (hes:G8 C (Bl.take m) r0 g0 env s1=some es) (hap:Jh es (QZ ops Bl m)=true) (hg0:g0+m≤s1.ctr)
 (hev:CX C (Bl.drop m) (MX es env) (KD es s1)=some (e,env',s')) {wS:World} {ZS:Bh} {φS:D8} {cS:Nat} (hcS:cS≤g0) {ds:List Deferred} (hp:Post w0 B wS ZS φS cS n ds e env' s' Q):
 ∀(fuel:Nat) (listed:Array Bool) (a:Act) (w:World) (Z:Bh) (φ:D8),ops.size≤cnt (AU listed) ops.size+fuel→listed.size=ops.size→Closed ops (AU listed)→(∀ i,AU listed i=true→i<m)→Inv w0 B (CW (AU listed) es 0 s1) Z φ w→
  Ak w Z φ (CW (AU listed) es 0 s1).ctr (AX (AU listed) (es.map Eff.dv) 0 env) a.tmps→a.tmps.size=n→a.defers=ds→(∀ i,i<m→AU listed i=false→φ (g0+i)=.pend)→Later B wS ZS φS cS w Z φ (CW (AU listed) es 0 s1).ctr→
  wpAny P .any ops Q fuel listed a w:=by
 obtain⟨hlen,hget⟩:=CU hcomp
 have hlen':Bl.length=ops.size:=by simpa using hlen
 obtain⟨hvl,hvs⟩:=U1 hes
 have Xi:es.length=m:=by rw[hvl];simp;omega
 have hdl:(es.map Eff.dv).length=m:=by simpa using Xi
 have Ac8:∀{L L':Nat→Bool} (es:List Eff) (i:Nat) (s:Ag),(∀ k,k<es.length→L (i+k)=L' (i+k))→CW L es i s=CW L' es i s:=by
  intro L L' es
  induction es with
  |nil=>intro i s _;rfl
  |cons e es ih=>
   intro i s h
   have h0:=h 0 (by simp)
   simp only[Nat.add_zero]at h0
   simp only[CW,h0]
   exact ih (i+1) _ fun k hk=>by rw[show i+1+k=i+(k+1) by omega];exact h (k+1) (by simp;omega)
 have finish:∀(fuel:Nat) (listed:Array Bool) (a:Act) (w:World) (Z:Bh) (φ:D8),ops.size≤m+fuel→listed.size=ops.size→(∀ i,i<ops.size→(AU listed i=true↔i<m))→Inv w0 B (CW (AU listed) es 0 s1) Z φ w→
  Ak w Z φ (CW (AU listed) es 0 s1).ctr (AX (AU listed) (es.map Eff.dv) 0 env) a.tmps→a.tmps.size=n→a.defers=ds→Later B wS ZS φS cS w Z φ (CW (AU listed) es 0 s1).ctr→wpAny P .any ops Q fuel listed a w:=by
  intro fuel listed a w Z φ hf hsz hL hI hE hn hds KI
  have e1:CW (AU listed) es 0 s1=KD es s1:=by
   rw[Ti es 0 s1]
   exact Ac8 es 0 s1 fun k hk=>by rw[Nat.zero_add];exact(hL k (by omega)).2 (by omega)
  have e2:AX (AU listed) (es.map Eff.dv) 0 env=MX es env:=by
   rw[Tf es 0 env]
   exact Gt _ 0 env fun k hk=>by rw[Nat.zero_add];exact(hL k (by omega)).2 (by omega)
  rw[e1]at hI hE KI
  rw[e2]at hE
  exact RF hC hcomp hok fuel m listed _ _ a w Z φ (Nat.le_refl _) hm (by omega) hsz hL hev hI hE hn (by rw[hds];exact hp.later KI)
 have AiN:∀L,s1.ctr≤(CW L es 0 s1).ctr:=fun L=>by rw[OO];omega
 have cls:∀(k:Nat) (ek:Eff) (ok:Ap),k<m→es[k]?=some ek→Bl[k]?=some ok→(J4 ok=0→ek.rd=[]∧ek.wr=[])∧(J4 ok=1→ek.wr=[]):=by
  intro k ek ok hk hek hok'
  obtain⟨e',q1,_,q3⟩:=hvs k ok (by rw[List.getElem?_take_of_lt hk];exact hok')
  rw[hek]at q1
  cases q1
  rcases q3 0 with⟨_,_,z1,z2,_⟩|⟨_,r',_,z1,z2⟩
  ·exact⟨fun _=>⟨z1,z2⟩,fun _=>z2⟩
  ·obtain⟨d,op,gd⟩:=ok
   exact⟨fun h=>by rw[z1,z2];exact Ak1 h _ _,fun h=>by rw[z2];exact Ak2 h _ _⟩
 have meet:∀(i j:Nat) (ei ej:Eff),i<j→j<m→es[i]?=some ei→es[j]?=some ej→((Region.before ops).getD j 0).testBit i=true∨Ac7 ei ej:=by
  intro i j ei ej hij hj hei hej
  cases hb:((Region.before ops).getD j 0).testBit i
  ·refine .inr ?_
   have hoi:Bl[i]?=some Bl[i]:=List.getElem?_eq_getElem (by omega)
   have hoj:Bl[j]?=some Bl[j]:=List.getElem?_eq_getElem (by omega)
   have ci:=cls i ei _ (by omega) hei hoi
   have cj:=cls j ej _ hj hej hoj
   by_cases h0:J4 Bl[i]=0
   ·obtain⟨z1,z2⟩:=ci.1 h0
    exact⟨fun t h=>by simp[z2]at h,fun t h=>by simp[z2]at h,fun t h=>by simp[z1]at h⟩
   by_cases h0':J4 Bl[j]=0
   ·obtain⟨z1,z2⟩:=cj.1 h0'
    exact⟨fun t _ h=>by simp[z1]at h,fun t _ h=>by simp[z2]at h,fun t _ h=>by simp[z2]at h⟩
   by_cases h1:J4 Bl[i]=1∧J4 Bl[j]=1
   ·have z1:=ci.2 h1.1
    have z2:=cj.2 h1.2
    exact⟨fun t h=>by simp[z1]at h,fun t h=>by simp[z1]at h,fun t _ h=>by simp[z2]at h⟩
   exact MP hap i j (XV hij hj hoi hoj hb h0 h0' (by omega)) ei ej hei hej
  ·exact .inl rfl
 intro fuel
 induction fuel with
 |zero=>
  intro listed a w Z φ hf hsz hcl Ug hI hE hn hds hpd KI
  have hfull:=N8 (L:=AU listed) (n:=ops.size) (by have:=cnt_le (AU listed) ops.size;omega)
  have hmE:m=ops.size:=by
   rcases Nat.lt_or_ge m ops.size with h|h
   ·have:=Ug m (hfull m h);omega
   ·omega
  exact finish 0 listed a w Z φ (by omega) hsz (fun i hi=>⟨fun _=>by omega,fun _=>hfull i hi⟩) hI hE hn hds KI
 |succ fuel ih=>
  intro listed a w Z φ hf hsz hcl Ug hI hE hn hds hpd KI
  by_cases hall:∀i,i<m→AU listed i=true
  ·have hL:∀i,i<ops.size→(AU listed i=true↔i<m):=fun i _=>⟨Ug i,hall i⟩
   have hc:cnt (AU listed) ops.size≤m:=by
        have:∀k,cnt (AU listed) k≤m:=by
         intro k
         induction k with
         |zero=>simp[cnt]
         |succ k ihk=>
          by_cases hk:k<m
          ·exact Nat.le_trans (cnt_le _ _) hk
          ·have:AU listed k=false:=by
            cases h:AU listed k
            ·rfl
            ·exact absurd (Ug k h) hk
           simp only[cnt,this,Bool.false_eq_true,if_false,Nat.add_zero]
           exact ihk
        exact this _
   exact finish (fuel+1) listed a w Z φ (by omega) hsz hL hI hE hn hds KI
  ·have YD:∃j,j<m∧AU listed j=false∧∀i,i<j→AU listed i=true:=by
        have:∃j,j<m∧AU listed j=false:=by
         rcases Classical.em (∃ j,j<m∧AU listed j=false)with h|h
         ·exact h
         ·exfalso
          refine hall fun i hi=>?_
          cases hl:AU listed i
          ·exact(h ⟨i,hi,hl⟩).elim
          ·rfl
        obtain⟨j,hj,hlj⟩:=this
        induction j using Nat.strongRecOn with
        |_ j ihj=>
         rcases Classical.em (∃ i,i<j∧AU listed i=false)with⟨i,hi,hli⟩|h
         ·exact ihj i hi (by omega) hli
         ·refine⟨j,hj,hlj,fun i hi=>?_⟩
          cases hl:AU listed i
          ·exact(h ⟨i,hi,hl⟩).elim
          ·rfl
   obtain⟨j0,hj0,hl0,hbelow⟩:=YD
   refine⟨fun hr=>?_,fun i hi=>?_⟩
   ·exfalso
    have hoj:ops[j0]?=some ops[j0]:=Array.getElem?_eq_getElem (by omega)
    have:j0∈Region.ready .any ops listed:=(CG hsz).2 ⟨_,hoj,hl0,fun e' he' hb=>hbelow _ (hok.fwd j0 _ hoj e' he' hb)⟩
    rw[hr]at this
    cases this
   ·obtain⟨o,ho,hl,Ku⟩:=(CG hsz).1 hi
    have hilt:=(Array.getElem?_eq_some_iff.1 ho).1
    have bit:∀k,((Region.before ops).getD i 0).testBit k=true→AU listed k=true:=fun k hb=>BU hok.fwd hcl i o ho Ku hb
    have later:∀k,k<ops.size→((Region.before ops).getD k 0).testBit i=true→AU listed k=false:=by
     intro k hk hb
     have hok':ops[k]?=some ops[k]:=Array.getElem?_eq_getElem hk
     cases hq:AU listed k
     ·rfl
     ·have:=BU hok.fwd hcl k _ hok' (fun e' he' hb=>hcl k _ hok' hq e' he' hb) hb
      rw[hl]at this;cases this
    have him:i<m:=by
     rcases Nat.lt_or_ge i m with h|h
     ·exact h
     ·exfalso
      have:=bit j0 (hok.tail i hilt h j0 (by omega) (by omega))
      rw[hl0]at this;cases this
    obtain⟨ao,hao,h1,h2,h3,h4⟩:=hget i o (by simpa using ho)
    obtain⟨ei,hei,hdi,hvw⟩:=hvs i ao (by rw[List.getElem?_take_of_lt him];exact hao)
    have hvw:=hvw 0
    simp only[Nat.zero_add]at hvw
    have hdv:(es.map Eff.dv)[i]?=some (ei.dst,ei.v):=by simp[hei,Eff.dv]
    have dvk:∀k d u,(es.map Eff.dv)[k]?=some (d,u)→k<m∧∃hk:k<ops.size,ops[k].dst=d:=by
     intro k d u hk
     have hkm:k<m:=by rw[← hdl];exact(List.getElem?_eq_some_iff.1 hk).1
     have hok':ops[k]?=some ops[k]:=Array.getElem?_eq_getElem (by omega)
     obtain⟨aok,Vz,_,_,hdk,_⟩:=hget k _ (by rw[Array.getElem?_toList];exact hok')
     obtain⟨ek,hek,Ak5,_⟩:=hvs k aok (by rw[List.getElem?_take_of_lt hkm];exact Vz)
     rw[List.getElem?_map,hek]at hk
     simp only[Option.map_some,Eff.dv,Option.some.injEq,Prod.mk.injEq]at hk
     exact⟨hkm,by omega,by rw[← hdk,←Ak5,hk.1]⟩
    have same:∀t∈slotsOf ao,(AX (AU listed) (es.map Eff.dv) 0 env).get t=(AX (fun q=>decide (q<i)) (es.map Eff.dv) 0 env).get t:=by
     intro t ht
     rw[CV,CV]
     refine BZ _ 0 _ fun k d u hk hd=>?_
     rw[Nat.zero_add]
     obtain⟨hkm,hks,hdst⟩:=dvk k d u hk
     rw[hd]at hdst
     have hok':ops[k]?=some ops[k]:=Array.getElem?_eq_getElem hks
     by_cases hki:k=i
     ·subst hki;rw[hl];simp
     ·have:=hok.tmp i ao hao hilt k _ t hki hok' hdst ht
      split at this
      ·rename_i hlt
       rw[bit k this];simp[hlt]
      ·rename_i hlt
       rw[later k hks this];simp[hlt]
    have hwc:wanted ao.guard (AX (AU listed) (es.map Eff.dv) 0 env)=wanted ao.guard (AX (fun q=>decide (q<i)) (es.map Eff.dv) 0 env):=Hy fun t b hg=>same t (by simp[slotsOf,hg])
    have hxs:∀x∈ao.op.Bl,x.val (AX (AU listed) (es.map Eff.dv) 0 env)=x.val (AX (fun q=>decide (q<i)) (es.map Eff.dv) 0 env):=fun x hx=>Hw fun t ht=>same t (by simp only[slotsOf,List.mem_append,List.mem_flatMap];exact .inl (.inr ⟨x,hx,ht⟩))
    have hec:∀s,Ae C ao.op (AX (AU listed) (es.map Eff.dv) 0 env) s=Ae C ao.op (AX (fun q=>decide (q<i)) (es.map Eff.dv) 0 env) s:=fun s=>Oc hxs
    have hsz':(listed.setIfInBounds i true).size=ops.size:=by simpa using hsz
    have hset:∀k,AU (listed.setIfInBounds i true) k=if k=i then true else AU listed k:=Hu (by omega)
    have hcl':Closed ops (AU (listed.setIfInBounds i true)):=by
     intro k ok hk hlk e' he' hb
     rw[hset]at hlk ⊢
     by_cases hki:k=i
     ·subst hki
      rw[ho]at hk
      cases hk
      split
      ·rfl
      ·exact Ku e' he' hb
     ·rw[if_neg hki]at hlk
      split
      ·rfl
      ·exact hcl k ok hk hlk e' he' hb
    have VA:∀k,AU (listed.setIfInBounds i true) k=true→k<m:=by
     intro k hk
     rw[hset]at hk
     split at hk
     ·omega
     ·exact Ug k hk
    have hcnt:ops.size≤cnt (AU (listed.setIfInBounds i true)) ops.size+fuel:=by
     rw[N9 (i:=i) hl (by rw[hset];simp) (fun k hk=>by rw[hset,if_neg hk])]
     simp[hilt];omega
    have frame:∀t,(AI.put ao.dst ei.v (AX (AU listed) (es.map Eff.dv) 0 env)).get t=(AX (AU (listed.setIfInBounds i true)) (es.map Eff.dv) 0 env).get t:=by
     intro t
     rw[get_put,CV,CV]
     by_cases hd:ao.dst=some t
     ·rw[if_pos hd]
      refine(Jl (j:=i) _ 0 _ (by rw[hdv,hdi,hd]) (by rw[Nat.zero_add,hset];simp) fun k d u hk hdk hlt=>?_).symm
      rw[Nat.zero_add,hset,if_neg (by omega)]
      obtain⟨hkm,hks,hdst⟩:=dvk k d u hk
      rw[hdk]at hdst
      have hok':ops[k]?=some ops[k]:=Array.getElem?_eq_getElem hks
      have:=hok.tmp i ao hao hilt k _ t (by omega) hok' hdst (by simp[slotsOf,hd])
      rw[if_neg (by omega)]at this
      exact later k hks this
     ·rw[if_neg hd]
      refine BZ _ 0 _ fun k d u hk hdk=>?_
      rw[Nat.zero_add,hset]
      by_cases hki:k=i
      ·subst hki
       rw[hdv]at hk
       simp only[Option.some.injEq,Prod.mk.injEq]at hk
       rw[hdi]at hk
       exact absurd (hk.1.trans hdk) hd
      ·rw[if_neg hki]
    have AgO:∀{φ':D8},(∀ k,k<m→k≠i→φ (g0+k)=.pend→φ' (g0+k)=.pend)→∀k,k<m→AU (listed.setIfInBounds i true) k=false→φ' (g0+k)=.pend:=by
     intro φ' h k hk hlk
     rw[hset]at hlk
     by_cases hki:k=i
     ·rw[if_pos hki]at hlk;cases hlk
     ·rw[if_neg hki]at hlk;exact h k hk hki (hpd k hk hlk)
    have AgP:∀(k:Nat) (ek:Eff),k<m→es[k]?=some ek→∀t ob,ek.upd=some (t,ob)→t∈ek.wr:=by
     intro k ek hk hek t ob hu
     have hok':Bl[k]?=some Bl[k]:=List.getElem?_eq_getElem (by omega)
     obtain⟨e',q1,_,q3⟩:=hvs k _ (by rw[List.getElem?_take_of_lt hk];exact hok')
     rw[hek]at q1
     cases q1
     rcases q3 0 with⟨_,_,_,_,z,_⟩|⟨_,r',z0,_,z2⟩
     ·rw[hu]at z;cases z
     ·obtain⟨_,_,_,h,_⟩:=Tj z0 rfl fun _ _=>rfl
      rw[z2];exact h t ob hu
    have hstep:CW (AU (listed.setIfInBounds i true)) es 0 s1=Ep ei.upd ei.bump (CW (AU listed) es 0 s1):=by
     refine Abj hei hl (by rw[hset];simp) (fun k hk=>by rw[hset,if_neg hk]) (fun k e' t ob ob' hlt he' hu hu'=>?_) s1
     have hkm:k<m:=by rw[← Xi];exact(List.getElem?_eq_some_iff.1 he').1
     rcases meet i k ei e' hlt hkm hei he' with hb|hno
     ·exact later k (by omega) hb
     ·exact(hno.ww t (AgP i ei him hei t ob hu) (AgP k e' hkm he' t ob' hu')).elim
    refine Fj hC ho h1 h2 h3 h4 hI hE hn ?_
    rcases hvw with⟨hw,hv,_,_,hu,hb⟩|⟨hw,r',hpar,hrd,hwr⟩
    ·rw[hv]at frame
     have hst:CW (AU (listed.setIfInBounds i true)) es 0 s1=CW (AU listed) es 0 s1:=by rw[hstep,hu,hb];rfl
     refine .inl ⟨by rw[hwc];exact hw,fun a' z1 z2 z3=>ih _ a' w Z φ hcnt hsz' hcl' VA (by rw[hst];exact hI) ?_ z1 (z2.trans hds) (AgO fun k _ _ h=>h) (by rw[hst];exact KI)⟩
     intro t
     rw[hst,←frame t]
     exact z3 t
    ·have hag:∀t∈ao.op.reads r' (AX (fun q=>decide (q<i)) (es.map Eff.dv) 0 env),nth (CW (AU listed) es 0 s1).σ t=nth (CW (fun q=>decide (q<i)) es 0 s1).σ t:=by
      intro t ht
      rw[← hrd]at ht
      rcases Nat.lt_or_ge t s1.σ.length with htl|htl
      ·rw[Jv _ t es 0 s1 htl,Jv _ t es 0 s1 htl]
       refine BZ _ 0 _ fun k d u hk hd=>?_
       rw[Nat.zero_add]
       rw[List.getElem?_map,Option.map_eq_some_iff]at hk
       obtain⟨ek,hek,huk⟩:=hk
       have hkm:k<m:=by rw[← Xi];exact(List.getElem?_eq_some_iff.1 hek).1
       have hwk:t∈ek.wr:=by
           cases hu2:ek.upd with
           |none=>simp[Eff.up,hu2]at huk;rw[← huk.1]at hd;cases hd
           |some q=>
            obtain⟨t2,ob'⟩:=q
            simp only[Eff.up,hu2,Prod.mk.injEq]at huk
            rw[← huk.1]at hd
            cases hd
            exact AgP k ek hkm hek _ _ hu2
       rcases Nat.lt_trichotomy k i with hki|hki|hki
       ·rcases meet k i ek ei hki him hek hei with hb|hno
        ·rw[bit k hb];simp[hki]
        ·exact(hno.wr t hwk ht).elim
       ·subst hki;rw[hl];simp
       ·rcases meet i k ei ek hki hkm hei hek with hb|hno
        ·rw[later k (by omega) hb];simp;omega
        ·exact(hno.rw t ht hwk).elim
      ·rw[Aj,Aj,List.getElem?_eq_none (by rw[Gg];exact htl),List.getElem?_eq_none (by rw[Gg];exact htl)]
     obtain⟨v0,s2,hop,_,hor⟩:=Tj hpar (sL:=CW (AU listed) es 0 s1) (by rw[Gg,Gg]) hag
     refine .inr ⟨by rw[hwc];exact hw,.ok v0,s2,by rw[hec];exact hop,fun v' hv' a' x w' Z' φ' ha' hr hI' hE' hL'=>?_,(fun v' hv'=>by cases hv')⟩
     cases hv'
     subst ha'
     obtain⟨z1,z2⟩:=size_put a o.dst x
     have hge:=AiN (AU listed)
     rcases hor with⟨rfl,hs2⟩|⟨mk,ob,j,t,AfE,rfl,hvt,hs2,Ak6,hcase⟩
     ·have hst:CW (AU (listed.setIfInBounds i true)) es 0 s1=s2:=hstep.trans hs2
      refine ih _ _ w' Z' φ' hcnt hsz' hcl' VA (by rw[hst];exact hI') ?_ (z1.trans hn) (z2.trans hds) (AgO fun k hk _ h=>(hL'.phi _ (by omega)).trans h) ?_
      ·intro t
       rw[hst,←frame t]
       exact hE' t
      ·rw[hst]
       exact⟨fun b q h=>(hL'.new b q h).elim (KI.new b q) .inr,Nat.le_trans KI.mono hL'.mono,fun b q z=>hL'.cold b q (KI.cold b q z),fun b q z=>(hL'.cell b q (KI.cold b q z)).trans (KI.cell b q z),fun q hq=>(hL'.phi q (Nat.lt_of_lt_of_le hq KI.mono)).trans (KI.phi q hq)⟩
     ·subst hs2
      have hgi:g0+i<(CW (AU listed) es 0 s1).ctr:=by omega
      have hpi:φ' (g0+i)=.pend:=(hL'.phi _ hgi).trans (hpd i him hl)
      have hst:CW (AU (listed.setIfInBounds i true)) es 0 s1=⟨(CW (AU listed) es 0 s1).σ.set t (ob (g0+i)),(CW (AU listed) es 0 s1).ctr+1⟩:=hstep.trans Ak6
      have hI2:=Inv.moved AfE hI' hgi hpi hcase
      have AgQ:∀q,q≠g0+i→Bd φ' (g0+i) (φ' (CW (AU listed) es 0 s1).ctr) q=φ' q:=fun q hq=>if_neg hq
      have OM:∀q,φ' q≠.pend→Bd φ' (g0+i) (φ' (CW (AU listed) es 0 s1).ctr) q=φ' q:=fun q hq=>AgQ q fun e=>hq (e▸hpi)
      refine ih _ _ w' Z' _ hcnt hsz' hcl' VA (by rw[hst];exact hI2) ?_ (z1.trans hn) (z2.trans hds) (AgO fun k hk hne h=>(AgQ _ (by omega)).trans ((hL'.phi _ (by omega)).trans h)) ?_
      ·intro q
       rw[hst,←frame q]
       have hq:=hE' q
       rw[get_put]at hq ⊢
       by_cases hd:ao.dst=some q
       ·rw[if_pos hd]at hq ⊢
        rw[hvt]
        exact AfE.rep (Nat.lt_succ_of_lt hgi) hq (Af _ _ _)
       ·rw[if_neg hd]at hq ⊢
        exact hq.fill (fun g _ hg=>OM g hg) (Nat.le_refl _)
      ·rw[hst]
       exact⟨fun b q h=>(hL'.new b q h).elim (KI.new b q) .inr,Nat.le_trans KI.mono (Nat.le_succ _),fun b q z=>hL'.cold b q (KI.cold b q z),fun b q z=>(hL'.cell b q (KI.cold b q z)).trans (KI.cell b q z),fun q hq=>(AgQ q (by omega)).trans ((hL'.phi q (Nat.lt_of_lt_of_le hq KI.mono)).trans (KI.phi q hq))⟩
end AI
end Go.Proofs.YtiimoiecghmebaaDoor
namespace Go.Proofs.YtiimoiecghmebaaDoor
namespace AI
open Go.RowKit
variable {P:Program} {B:Nat} {w w' w0:World} {Z Z':Bh} {φ φ':D8} {ctr BX:Nat} {s s':Ag}
theorem U2:∀{es:List (AV×AV)},WU es=true→∀(i:Nat) (e:AV×AV),es[i]?=some e→e.1.closed=true
 |[],_,i,e,h=>by simp at h
 |(k,v)::es,hk,i,e,h=>by
  simp only[WU,Bool.and_eq_true]at hk
  cases i with
  |zero=>simp at h;subst h;exact hk.1
  |succ i=>exact U2 hk.2 i e (by simpa using h)
theorem OQ:∀{cs:List AV} {k j o g a n:Nat},LH cs k=some (j,o,g,a,n)→k≤j∧cs[j-k]?=some (.own o g a n)
 |[],k,j,o,g,a,n,h=>by cases h
 |c::cs,k,j,o,g,a,n,h=>by
  cases c with
  |own o' g' a' n'=>
   simp only[LH,Option.some.injEq,Prod.mk.injEq]at h
   obtain⟨rfl,rfl,rfl,rfl,rfl⟩:=h
   exact⟨Nat.le_refl _,by simp⟩
  |_=>
   obtain⟨h1,h2⟩:=OQ (k:=k+1) (cs:=cs) (by simpa only[LH]using h)
   refine⟨by omega,?_⟩
   rw[show j-k=(j-(k+1))+1 by omega,List.getElem?_cons_succ]
   exact h2
theorem Ac9 {s:Ag} {Z:Bh} {o g es off len:Nat} {nn:Bool} {elems:List AV} {q:Value} (hI:Inv w0 B s Z φ w) (ho:s.σ[o]?=some (.arr g es nn true elems)) (hfit:off+len≤elems.length) (hr:Rep w Z φ s.ctr (.own o g off len) q):
 ∃Z':Bh,(∀ b i,Z b i→Z' b i)∧(∀ b i,Z' b i→Z b i∨(B≤b∧b<w.heap.size∧∃e n,φ g=.row b e n))∧Rep w Z' φ s.ctr (.sl nn (sub elems off len)) q:=by
 obtain⟨og,hes,h3⟩:=hI.objs o _ ho
 have hlen:(sub elems off len).length=len:=Iw hfit
 cases hr with
 |BP _ _ hg hφ=>
  rw[hφ]at h3
  obtain⟨rfl,_⟩:=h3
  exact⟨Z,fun _ _ h=>h,fun _ _ h=>.inl h,by rw[List.eq_nil_of_length_eq_zero hlen];exact .EI⟩
 |Dz _ _ a0 hg hφ=>
  rw[hφ]at h3
  obtain⟨rfl,_⟩:=h3
  exact⟨Z,fun _ _ h=>h,fun _ _ h=>.inl h,by
   rw[List.eq_nil_of_length_eq_zero hlen]
   exact .sl0 a0⟩
 |own _ _ _ _ b e size cap ad hg hφ hcap ha hs=>
  rw[hφ]at h3
  obtain⟨rfl,he,hB,hnz,hfs,c,ty,hw,hcs,hH⟩:=h3
  subst he
  have hblt:b<w.heap.size:=(Array.getElem?_eq_some_iff.1 hw).1
  refine⟨fun b' i=>Z b' i∨b'=b,fun _ _ h=>.inl h,fun b' i h=>h.imp id fun e=>by subst e;exact⟨hB,hblt,_,_,hφ⟩,?_⟩
  by_cases hl0:len=0
  ·have hnil:sub elems off len=[]:=List.eq_nil_of_length_eq_zero (by omega)
   rw[hnil]
   obtain⟨ab,ao,asp⟩:=ad
   simp only at hs
   subst hs
   rw[hl0]
   exact .sl [] 0 ab ao cap 1 (fun _ _=>Go.undef) rfl (by omega) (by omega) (fun i x hx=>by simp at hx) (fun i x j c hx=>by simp at hx) (fun i x j c hx=>by simp at hx)
  ·obtain⟨rfl,hsize,_⟩:=ha (.inl (by omega))
   have hL:Later B w Z φ s.ctr w (fun b' i=>Z b' i∨b'=b) φ s.ctr:=⟨fun b' i h=>h.imp id fun e=>by omega,Nat.le_refl _,fun _ _ h=>.inl h,fun _ _ _=>rfl,fun _ _=>rfl⟩
   refine .sl _ len b (off*e) cap e (fun i j=>(c[(off+i)*e+j]?).getD Go.undef) hlen.symm hcap hes (fun i y hy=>(hH _ _ (getElem_sub hy).1).1) (fun i y j q hy hq=>?_) (fun i y j q hy hq=>?_)
   ·obtain⟨u,r1,r2,r3,r4⟩:=(hH _ _ (getElem_sub hy).1).2 j q hq
    refine⟨.inr rfl,?_,r4 rfl,r3⟩
    rw[show off*e+i*e+j=(off+i)*e+j by rw[Nat.add_mul]]
    simp[World.cell?,hw,r1]
   ·obtain⟨u,r1,r2,r3,r4⟩:=(hH _ _ (getElem_sub hy).1).2 j q hq
    simp only[r1,Option.getD_some]
    exact r2.later hL
theorem DK:∀{ts:List Nat} {env:Env} {s:Ag} {BD:Env} {s1:Ag} {Z:Bh} {tmps:Array Value},Fz ts env s=some (BD,s1)→Inv w0 B s Z φ w→Ak w Z φ s.ctr env tmps→
 ∃Z',Inv w0 B s1 Z' φ w∧Ak w Z' φ s1.ctr BD tmps∧Later B w Z φ s.ctr w Z' φ s1.ctr
 |[],env,s,BD,s1,Z,tmps,h,hI,hE=>by
  simp only[Fz,Option.some.injEq,Prod.mk.injEq]at h
  obtain⟨rfl,rfl⟩:=h
  exact⟨Z,hI,hE,Later.refl _ _ _ _ _⟩
 |t::ts,env,s,BD,s1,Z,tmps,h,hI,hE=>by
  simp only[Fz]at h
  have same:∀{v:AV},env.get t=v→Ak w Z φ s.ctr ((t,v)::env) tmps:=by
   intro v hv t'
   simp only[Env.get]
   cases hb:Nat.beq t t'
   ·exact hE t'
   ·have:=Nat.eq_of_beq_eq_true hb
    subst this
    rw[← hv];exact hE t
  split at h
  ·rename_i o g off len hv
   split at h
   ·rename_i g' es nn elems ho
    split at h
    ·rename_i hc
     obtain⟨rfl,hfit⟩:=hc
     rw[Aj]at ho
     have hob:=hI.objs o _ ho
     obtain⟨og,hes,h3⟩:=hob
     have hr:=hE t
     rw[hv]at hr
     have hlen:(sub elems off len).length=len:=Iw hfit
     have step:∀(Z':Bh),(∀ b i,Z b i→Z' b i)→(∀ b i,Z' b i→Z b i∨(B≤b∧b<w.heap.size∧∃e n,φ g=.row b e n))→Rep w Z' φ s.ctr (.sl nn (sub elems off len)) (tmps.getD t undef)→
      ∃WE,Inv w0 B s1 WE φ w∧Ak w WE φ s1.ctr BD tmps∧Later B w Z φ s.ctr w WE φ s1.ctr:=by
      intro Z' hZ1 hZ2 hrep
      have hL:Later B w Z φ s.ctr w Z' φ s.ctr:=⟨fun b i h=>(hZ2 b i h).imp id fun h=>h.1,Nat.le_refl _,hZ1,fun _ _ _=>rfl,fun _ _=>rfl⟩
      have hI':Inv w0 B ⟨s.σ.set o .dead,s.ctr⟩ Z' φ w:=by
       refine hI.set ho (Below.refl _ _) hL (fun b i h=>(hZ2 b i h).elim (hI.live b i) fun h=>h.2.1) (fun o' ob' g' b' e' n' hne ho' hg' hφ'=>⟨rfl,fun i h=>?_⟩) trivial (fun g' b' e' n' hg'=>by simp[Obj.gen]at hg')
       rcases hZ2 b' i h with h|⟨_,_,e2,n2,hφ2⟩
       ·exact h
       ·exact absurd (hI.apart o' o ob' _ g' g _ _ _ _ _ ho' ho hg' rfl hφ' hφ2) hne
      have hE':Ak w Z' φ s.ctr ((t,.sl nn (sub elems off len))::env) tmps:=by
       intro t'
       simp only[Env.get]
       cases hb:Nat.beq t t'
       ·exact(hE t').later hL
       ·have:=Nat.eq_of_beq_eq_true hb
        subst this
        exact hrep
      obtain⟨Z2,k1,k2,k3⟩:=DK h hI' hE'
      exact⟨Z2,k1,k2,hL.trans k3⟩
     generalize hq:tmps.getD t undef=q at hr step
     cases hr with
     |BP _ _ hg hφ=>
      rw[hφ]at h3
      obtain⟨rfl,_⟩:=h3
      exact step Z (fun _ _ h=>h) (fun _ _ h=>.inl h) (by rw[List.eq_nil_of_length_eq_zero hlen];exact .EI)
     |Dz _ _ a0 hg hφ=>
      rw[hφ]at h3
      obtain⟨rfl,_⟩:=h3
      exact step Z (fun _ _ h=>h) (fun _ _ h=>.inl h) (by
       rw[List.eq_nil_of_length_eq_zero hlen]
       exact .sl0 a0)
     |own _ _ _ _ b e size cap ad hg hφ hcap ha hs=>
      rw[hφ]at h3
      obtain⟨rfl,he,hB,hnz,hfs,c,ty,hw,hcs,hH⟩:=h3
      subst he
      have hblt:b<w.heap.size:=(Array.getElem?_eq_some_iff.1 hw).1
      refine step (fun b' i=>Z b' i∨b'=b) (fun _ _ h=>.inl h) (fun b' i h=>h.imp id fun e=>by subst e;exact⟨hB,hblt,_,_,hφ⟩) ?_
      by_cases hl0:len=0
      ·have hnil:sub elems off len=[]:=List.eq_nil_of_length_eq_zero (by omega)
       rw[hnil]
       obtain⟨ab,ao,asp⟩:=ad
       simp only at hs
       subst hs
       rw[hl0]
       exact .sl [] 0 ab ao cap 1 (fun _ _=>Go.undef) rfl (by omega) (by omega) (fun i x hx=>by simp at hx) (fun i x j c hx=>by simp at hx) (fun i x j c hx=>by simp at hx)
      ·obtain⟨rfl,hsize,_⟩:=ha (.inl (by omega))
       have hL:Later B w Z φ s.ctr w (fun b' i=>Z b' i∨b'=b) φ s.ctr:=⟨fun b' i h=>h.imp id fun e=>by omega,Nat.le_refl _,fun _ _ h=>.inl h,fun _ _ _=>rfl,fun _ _=>rfl⟩
       refine .sl _ len b (off*e) cap e (fun i j=>(c[(off+i)*e+j]?).getD Go.undef) hlen.symm hcap hes (fun i y hy=>(hH _ _ (getElem_sub hy).1).1) (fun i y j q hy hq=>?_) (fun i y j q hy hq=>?_)
       ·obtain⟨u,r1,r2,r3,r4⟩:=(hH _ _ (getElem_sub hy).1).2 j q hq
        refine⟨.inr rfl,?_,r4 rfl,r3⟩
        rw[show off*e+i*e+j=(off+i)*e+j by rw[Nat.add_mul]]
        simp[World.cell?,hw,r1]
       ·obtain⟨u,r1,r2,r3,r4⟩:=(hH _ _ (getElem_sub hy).1).2 j q hq
        simp only[r1,Option.getD_some]
        exact r2.later hL
    ·cases h
   ·cases h
  ·rename_i o g i off hv
   split at h
   ·rename_i g' es nn elems ho
    split at h
    ·rename_i hc
     subst hc
     split at h
     ·rename_i x hx
      rw[Aj]at ho hx
      have hob:=hI.objs o _ ho
      obtain⟨og,hes,h3⟩:=hob
      have hr:=hE t
      rw[hv]at hr
      generalize hq:tmps.getD t undef=q at hr
      cases hr with
      |ref _ _ _ _ b e size hg hφ=>
       rw[hφ]at h3
       obtain⟨rfl,he,hB,hnz,hfs,c,ty,hw,hcs,hH⟩:=h3
       subst he
       have hblt:b<w.heap.size:=(Array.getElem?_eq_some_iff.1 hw).1
       have hL:Later B w Z φ s.ctr w (fun b' i=>Z b' i∨b'=b) φ s.ctr:=⟨fun b' i h=>h.imp id fun e=>by omega,Nat.le_refl _,fun _ _ h=>.inl h,fun _ _ _=>rfl,fun _ _=>rfl⟩
       have hI':Inv w0 B ⟨s.σ.set o .dead,s.ctr⟩ (fun b' i=>Z b' i∨b'=b) φ w:=by
        refine hI.set ho (Below.refl _ _) hL (fun b' i h=>h.elim (hI.live b' i) fun h=>h▸hblt) (fun o' ob' g' b' e' n' hne ho' hg' hφ'=>⟨rfl,fun i h=>?_⟩) trivial (fun g' b' e' n' hg'=>by simp[Obj.gen]at hg')
        rcases h with h|rfl
        ·exact h
        ·exact absurd (hI.apart o' o ob' _ g' _ _ _ _ _ _ ho' ho hg' rfl hφ' hφ) hne
       have hE':Ak w (fun b' i=>Z b' i∨b'=b) φ s.ctr ((t,.CS (x.cells.drop off))::env) tmps:=by
        intro t'
        simp only[Env.get]
        cases hb:Nat.beq t t'
        ·exact(hE t').later hL
        ·have:=Nat.eq_of_beq_eq_true hb
         subst this
         show Rep w _ φ s.ctr _ (tmps.getD t undef)
         rw[hq]
         refine .CS _ b (i*e+off) (fun j=>(c[i*e+off+j]?).getD Go.undef) (fun j d hj=>?_) (fun j d hj=>?_)
         ·rw[List.getElem?_drop]at hj
          obtain⟨u,r1,r2,r3,r4⟩:=(hH _ _ hx).2 _ d hj
          refine⟨.inr rfl,?_,r4 rfl,r3⟩
          rw[← Nat.add_assoc]at r1
          simp[World.cell?,hw,r1]
         ·rw[List.getElem?_drop]at hj
          obtain⟨u,r1,r2,r3,r4⟩:=(hH _ _ hx).2 _ d hj
          rw[← Nat.add_assoc]at r1
          simp only[r1,Option.getD_some]
          exact r2.later hL
       obtain⟨Z2,k1,k2,k3⟩:=DK h hI' hE'
       exact⟨Z2,k1,k2,hL.trans k3⟩
     ·cases h
    ·cases h
   ·rename_i g' es nn x ho
    split at h
    ·rename_i k o2 g2 a2 n2 hoc
     split at h
     ·rename_i g3 es3 nn3 Ik ho2
      split at h
      ·rename_i hc
       obtain⟨rfl,rfl,rfl,rfl,hne2,hfit,hcl⟩:=hc
       rw[Aj]at ho ho2
       obtain⟨_,AgR⟩:=OQ hoc
       rw[Nat.sub_zero]at AgR
       obtain⟨og,hes,h3⟩:=hI.objs o _ ho
       have hr:=hE t
       rw[hv]at hr
       generalize hq:tmps.getD t undef=q at hr
       cases hr with
       |ref _ _ _ _ b e size hg hφ=>
        rw[hφ]at h3
        obtain⟨rfl,he,hB,hnz,hfs,c,ty,hw,hcs,hH⟩:=h3
        subst he
        have hblt:b<w.heap.size:=(Array.getElem?_eq_some_iff.1 hw).1
        obtain⟨hxl,hx⟩:=hH 0 x rfl
        obtain⟨uk,q1,q2,q3,_⟩:=hx k _ AgR
        obtain⟨Z1,z1,z2,hrep⟩:=Ac9 hI ho2 hfit q2
        have hL1:Later B w Z φ s.ctr w Z1 φ s.ctr:=⟨fun b i h=>(z2 b i h).imp id fun h=>h.1,Nat.le_refl _,z1,fun _ _ _=>rfl,fun _ _=>rfl⟩
        have hI1:Inv w0 B ⟨s.σ.set o2 .dead,s.ctr⟩ Z1 φ w:=by
            refine hI.set ho2 (Below.refl _ _) hL1 (fun b i h=>(z2 b i h).elim (hI.live b i) fun h=>h.2.1) (fun o' ob' g' b' e' n' hne ho' hg' hφ'=>⟨rfl,fun i h=>?_⟩) trivial (fun g' b' e' n' hg'=>by simp[Obj.gen]at hg')
            rcases z2 b' i h with h|⟨_,_,e2,n2,hφ2⟩
            ·exact h
            ·exact absurd (hI.apart o' o2 ob' _ g' g2 _ _ _ _ _ ho' ho2 hg' rfl hφ' hφ2) hne
        have ho1:(s.σ.set o2 .dead)[o]?=some (.arr g e true false [x]):=by rw[List.getElem?_set_ne hne2];exact ho
        have hL2:Later B w Z1 φ s.ctr w (fun b' i=>Z1 b' i∨b'=b) φ s.ctr:=⟨fun b' i h=>h.imp id fun e=>by omega,Nat.le_refl _,fun _ _ h=>.inl h,fun _ _ _=>rfl,fun _ _=>rfl⟩
        have hI2:Inv w0 B ⟨(s.σ.set o2 .dead).set o .dead,s.ctr⟩ (fun b' i=>Z1 b' i∨b'=b) φ w:=by
            refine hI1.set ho1 (Below.refl _ _) hL2 (fun b' i h=>h.elim (hI1.live b' i) fun h=>h▸hblt) (fun o' ob' g' b' e' n' hne ho' hg' hφ'=>⟨rfl,fun i h=>?_⟩) trivial (fun g' b' e' n' hg'=>by simp[Obj.gen]at hg')
            rcases h with h|rfl
            ·exact h
            ·exact absurd (hI1.apart o' o ob' _ g' _ _ _ _ _ _ ho' ho1 hg' rfl hφ' hφ) hne
        have hL:=hL1.trans hL2
        have hkl:k<x.cells.length:=(List.getElem?_eq_some_iff.1 AgR).1
        have each:∀(j:Nat) (d:AV),(x.cells.set k (.sl nn3 (sub Ik a2 n2)))[j]?=some d→∃u,c[j]?=some u∧Rep w (fun b' i=>Z1 b' i∨b'=b) φ s.ctr d u∧d.one=true:=fun j d hj=>by
            by_cases hjk:j=k
            ·subst hjk
             rw[List.getElem?_set_self hkl]at hj
             obtain rfl:=(Option.some.inj hj).symm
             exact⟨uk,by simpa using q1,hrep.later hL2,rfl⟩
            ·rw[List.getElem?_set_ne (fun e=>hjk e.symm)]at hj
             obtain⟨u,r1,r2,r3,_⟩:=hx j d hj
             exact⟨u,by simpa using r1,r2.later hL,r3⟩
        have hE':Ak w (fun b' i=>Z1 b' i∨b'=b) φ s.ctr ((t,.CS (x.cells.set k (.sl nn3 (sub Ik a2 n2))))::env) tmps:=by
            intro t'
            simp only[Env.get]
            cases hb:Nat.beq t t'
            ·exact(hE t').later hL
            ·have:=Nat.eq_of_beq_eq_true hb
             subst this
             show Rep w _ φ s.ctr _ (tmps.getD t undef)
             rw[hq]
             refine .CS _ b (0*e+0) (fun j=>(c[j]?).getD Go.undef) (fun j d hj=>?_) (fun j d hj=>?_)
             ·obtain⟨u,r1,r2,r3⟩:=each j d hj
              refine⟨.inr rfl,?_,DL hcl j d hj,r3⟩
              simp[World.cell?,hw,r1]
             ·obtain⟨u,r1,r2,r3⟩:=each j d hj
              simp only[r1,Option.getD_some]
              exact r2
        obtain⟨Z2,k1,k2,k3⟩:=DK h hI2 hE'
        exact⟨Z2,k1,k2,hL.trans k3⟩
      ·cases h
     ·cases h
    ·cases h
   ·cases h
  ·rename_i o g hv
   split at h
   ·rename_i g' ents ho
    split at h
    ·rename_i hc
     obtain⟨rfl,hkc⟩:=hc
     rw[Aj]at ho
     have hr:=hE t
     rw[hv]at hr
     generalize hq:tmps.getD t undef=q at hr
     obtain⟨b,e,n',es,clock,rfl,hφ,hB,hb,hEn⟩:=Mc hI ho hr
     have hst:=H8 hI ho hφ hb
     have hblt:b<w.heap.size:=(Array.getElem?_eq_some_iff.1 hb).1
     have hL:Later B w Z φ s.ctr w (fun b' i=>Z b' i∨b'=b) φ s.ctr:=⟨fun b' i h=>h.imp id fun e=>by omega,Nat.le_refl _,fun _ _ h=>.inl h,fun _ _ _=>rfl,fun _ _=>rfl⟩
     have hI':Inv w0 B ⟨s.σ.set o .dead,s.ctr⟩ (fun b' i=>Z b' i∨b'=b) φ w:=by
      refine hI.set ho (Below.refl _ _) hL (fun b' i h=>h.elim (hI.live b' i) fun h=>h▸hblt) (fun o' ob' g' b' e' n' hne ho' hg' hφ'=>⟨rfl,fun i h=>?_⟩) trivial (fun g' b' e' n' hg'=>by simp[Obj.gen]at hg')
      rcases h with h|rfl
      ·exact h
      ·exact absurd (hI.apart o' o ob' _ g' _ _ _ _ _ _ ho' ho hg' rfl hφ' hφ) hne
     have hE':Ak w (fun b' i=>Z b' i∨b'=b) φ s.ctr ((t,.fmap ents)::env) tmps:=by
      intro t'
      simp only[Env.get]
      cases hb':Nat.beq t t'
      ·exact(hE t').later hL
      ·have:=Nat.eq_of_beq_eq_true hb'
       subst this
       show Rep w _ φ s.ctr _ (tmps.getD t undef)
       rw[hq]
       have each:∀(i:Nat) (e:AV×AV),ents[i]?=some e→es[i]?=some ((es[i]?).getD {key:=Go.undef,val:=Go.undef,born:=0})∧e.1.closed=true∧e.2.closed=true∧e.2.storable=true∧
            Rep w (fun b' i=>Z b' i∨b'=b) φ s.ctr e.1 ((es[i]?).getD {key:=Go.undef,val:=Go.undef,born:=0}).key∧Rep w (fun b' i=>Z b' i∨b'=b) φ s.ctr e.2 ((es[i]?).getD {key:=Go.undef,val:=Go.undef,born:=0}).val:=by
        intro i e he
        obtain⟨e',q1,q2,q3,q4,q5⟩:=hEn.2 i e he
        rw[q1]
        exact⟨rfl,U2 hkc i e he,q5 rfl,q4,q2.later hL,q3.later hL⟩
       exact .fmap ents b es clock (fun i=>(es[i]?).getD {key:=Go.undef,val:=Go.undef,born:=0}) (.inr rfl) hb hst hEn.1 (fun i e he=>⟨(each i e he).1,(each i e he).2.1,(each i e he).2.2.1,(each i e he).2.2.2.1⟩) (fun i e he=>(each i e he).2.2.2.2.1) (fun i e he=>(each i e he).2.2.2.2.2)
     obtain⟨Z2,k1,k2,k3⟩:=DK h hI' hE'
     exact⟨Z2,k1,k2,hL.trans k3⟩
    ·cases h
   ·cases h
  ·rename_i nn xs hv
   exact DK h hI (same hv)
  ·rename_i hv
   exact DK h hI (same hv)
  ·cases h
theorem Tn (env:Env):∀(ts:List Nat) (t:Nat),(commit env ts).get t=env.get t∨(commit env ts).get t=.junk
 |[],t=>.inr rfl
 |t'::ts,t=>by
  simp only[commit,Env.get]
  cases hb:Nat.beq t' t
  ·exact Tn env ts t
  ·have:=Nat.eq_of_beq_eq_true hb
   subst this
   exact .inl rfl
theorem Ak.commit {env:Env} {tmps:Array Value} (h:Ak w Z φ ctr env tmps) (ts:List Nat):Ak w Z φ ctr (AI.commit env ts) tmps:=by
 intro t
 rcases Tn env ts t with h1|h1<;>rw[h1]
 ·exact h t
 ·exact .junk _
theorem Inv.truncate (hI:Inv w0 B s Z φ w) (t:Option Nat):Inv w0 B (AI.truncate t s) Z φ w∧(AI.truncate t s).ctr=s.ctr:=by
 cases t with
 |none=>exact⟨hI,rfl⟩
 |some k=>exact⟨hI.take _,rfl⟩
theorem GX (C:Aq) (N:Nat) (env:Env) (s:Ag) (r:Az×Env×Ag):EO C N KH env s≠some r:=by
 simp[KH,EO,AO.val]
structure AfF (ops:Array Oper) (Bl:List Ap) (m:Nat) (W pc:List Nat):Prop where
 Ee:∀(p:Nat) (E:List Nat),pc=p::E→∀j,j<ops.size→p<j→Dp j E=false→((Region.before ops).getD j 0).testBit p=true
 fwd:∀(j:Nat) (o:Oper),ops[j]?=some o→∀e∈o.after,Region.binds .any e=true→e.on<j
 tmp:∀(j:Nat) (ao:Ap),Bl[j]?=some ao→j<ops.size→∀(i:Nat) (oi:Oper) (t:Nat),i≠j→ops[i]?=some oi→oi.dst=some t→t∈slotsOf ao→if i<j then((Region.before ops).getD j 0).testBit i=true else((Region.before ops).getD i 0).testBit j=true
 tail:∀(j:Nat) (ao:Ap),Bl[j]?=some ao→j<ops.size→m≤j→flt ao=false→Dp j W=false→∀(i:Nat) (ai:Ap),i<j→Bl[i]?=some ai→flt ai=false→Dp i W=false→((Region.before ops).getD j 0).testBit i=true
theorem XW {x:Nat}:∀{l:List Nat},Dp x l=true→x∈l
 |[],h=>by cases h
 |y::l,h=>by
  simp only[Dp]at h
  cases hb:Nat.beq x y
  ·rw[hb,cond_false]at h
   exact List.mem_cons_of_mem _ (XW h)
  ·rw[Nat.eq_of_beq_eq_true hb]
   simp
theorem Ak8 {ops:Array Oper} {Bl:List Ap} {m:Nat} {W pc:List Nat} (h:XF ops Bl m W pc=true):∀p E,pc=p::E→∀i,Dp i E=true→Dp i W=false:=by
 intro p E hpE i hi
 subst hpE
 unfold XF at h
 simp only[Bool.and_eq_true,List.all_eq_true]at h
 have:=h.1.1 i (XW hi)
 simpa using this
theorem Y6 {ops:Array Oper} {Bl:List Ap} {m:Nat} {W pc:List Nat} (h:XF ops Bl m W pc=true):AfF ops Bl m W pc:=by
 unfold XF at h
 rw[Bool.and_eq_true]at h
 obtain⟨hpc,h⟩:=h
 simp only[List.all_eq_true,List.mem_range]at h
 refine⟨fun p E hpE j hj hpj hjE=>?_,fun j o ho e he hb=>?_,fun j ao hao hj i oi t hij hoi hd ht=>?_,fun j ao hao hj hm hf hw i ai hi hai hfi hwi=>?_⟩
 ·subst hpE
  simp only[Bool.and_eq_true,List.all_eq_true,List.mem_range]at hpc
  have:=hpc.2 j hj
  simp only[hjE,Bool.or_false,Bool.or_eq_true,decide_eq_true_eq]at this
  exact this.resolve_left (by omega)
 ·have hj:=(Array.getElem?_eq_some_iff.1 ho).1
  have:=h j hj
  rw[ho]at this
  cases hao:Bl[j]? with
  |none=>simp[hao]at this
  |some ao=>
   simp only[hao,Bool.and_eq_true,List.all_eq_true]at this
   have:=this.1.1 e (by simpa using he)
   simp only[hb,Bool.not_true,Bool.false_or,decide_eq_true_eq]at this
   exact this
 ·have ho:ops[j]?=some ops[j]:=Array.getElem?_eq_getElem hj
  have:=h j hj
  rw[ho,hao]at this
  simp only[Bool.and_eq_true,List.all_eq_true,List.mem_range]at this
  have:=this.1.2 i (Array.getElem?_eq_some_iff.1 hoi).1
  simp only[Bool.or_eq_true,beq_iff_eq,hij,false_or,hoi,Option.bind_some,hd,Bool.not_eq_true',List.contains_eq_mem,decide_eq_false_iff_not,ht,not_true_eq_false]at this
  split
  ·rename_i hlt;rw[if_pos hlt]at this;exact this
  ·rename_i hlt;rw[if_neg hlt]at this;exact this
 ·have ho:ops[j]?=some ops[j]:=Array.getElem?_eq_getElem hj
  have:=h j hj
  rw[ho,hao]at this
  simp only[Bool.and_eq_true,Bool.or_eq_true,decide_eq_true_eq,List.all_eq_true,List.mem_range,hf,hw,Bool.false_eq_true,or_false]at this
  rcases this.2 with h1|h1
  ·omega
  ·have:=h1 i hi
   rw[hai]at this
   simpa[hfi,hwi]using this
def Ej (L:Nat→Bool):List (Option Nat×AV×Option Ag)→Nat→Ag→Ag
 |[],_,s=>s
 |(_,_,x)::es,i,s=>Ej L es (i+1) (if L i then x.getD s else s)
def MQ (es:List (Option Nat×AV×Option Ag)):List (Option Nat×AV):=es.map fun e=>(e.1,e.2.1)
theorem Gw {L L':Nat→Bool}:∀(es:List (Option Nat×AV×Option Ag)) (i:Nat) (s:Ag),(∀ k d v s1,es[k]?=some (d,v,some s1)→L (i+k)=L' (i+k))→Ej L es i s=Ej L' es i s
 |[],i,s,_=>rfl
 |(d,v,x)::es,i,s,h=>by
  simp only[Ej]
  have e:(if L i then x.getD s else s)=(if L' i then x.getD s else s):=by
   cases x with
   |none=>simp
   |some s1=>
    have h0:=h 0 d v s1 rfl
    simp only[Nat.add_zero]at h0
    rw[h0]
  rw[e]
  refine Gw es (i+1) _ fun k d' v' s' hk=>?_
  rw[show i+1+k=i+(k+1) by omega]
  exact h (k+1) d' v' s' (by simpa using hk)
theorem PV {L:Nat→Bool} (es:List (Option Nat×AV×Option Ag)) (i:Nat) (s:Ag) (h:∀k d v s1,es[k]?=some (d,v,some s1)→L (i+k)=false):Ej L es i s=s:=by
 have:∀(es:List (Option Nat×AV×Option Ag)) (i:Nat),Ej (fun _=>false) es i s=s:=by
  intro es
  induction es with
  |nil=>intro i;rfl
  |cons e es ih=>intro i;obtain⟨d,v,x⟩:=e;simp only[Ej,Bool.false_eq_true,if_false];exact ih _
 rw[Gw (L':=fun _=>false) es i s h]
 exact this es i
theorem U3 {L:Nat→Bool}:∀(es:List (Option Nat×AV×Option Ag)) (i j:Nat) (s s1:Ag) (d:Option Nat) (v:AV),es[j]?=some (d,v,some s1)→L (i+j)=true→(∀ k d' v' s',es[k]?=some (d',v',some s')→j<k→L (i+k)=false)→Ej L es i s=s1
 |[],i,j,s,s1,d,v,h,_,_=>by simp at h
 |(d0,v0,x0)::es,i,0,s,s1,d,v,h,hL,hno=>by
  simp only[List.getElem?_cons_zero,Option.some.injEq,Prod.mk.injEq]at h
  obtain⟨rfl,rfl,rfl⟩:=h
  simp only[Nat.add_zero]at hL
  simp only[Ej,hL,if_true,Option.getD_some]
  exact PV es (i+1) s1 fun k d' v' s' hk=>by rw[show i+1+k=i+(k+1) by omega];exact hno (k+1) d' v' s' (by simpa using hk) (by omega)
 |(d0,v0,x0)::es,i,j+1,s,s1,d,v,h,hL,hno=>by
  simp only[Ej]
  exact U3 es (i+1) j _ s1 d v (by simpa using h) (by rw[show i+1+j=i+(j+1) by omega];exact hL) fun k d' v' s' hk hlt=>by
   rw[show i+1+k=i+(k+1) by omega]
   exact hno (k+1) d' v' s' (by simpa using hk) (by omega)
theorem Ada {o:Ap} (h:flt o=true):o.op.EM=true∧o.op.cls=some .e:=by
 unfold flt at h
 split at h
 ·rename_i hc;exact⟨h,hc⟩
 ·cases h
mutual
theorem XY:∀(u:AV) {v:AV},A8 u v=true→u=v
 | .bool a,v,h=>by
   cases v<;>simp only[A8,Bool.false_eq_true]at h
   rw[of_decide_eq_true h]
 | .int k x,v,h=>by
   cases v<;>simp only[A8,Bool.and_eq_true,Bool.false_eq_true]at h
   rw[of_decide_eq_true h.1,of_decide_eq_true h.2]
 | .str a,v,h=>by
   cases v<;>simp only[A8,Bool.false_eq_true]at h
   rw[of_decide_eq_true h]
 | .sl b l,v,h=>by
   cases v<;>simp only[A8,Bool.and_eq_true,Bool.false_eq_true]at h
   rw[of_decide_eq_true h.1,Q7 l h.2]
 | .own o g i n,v,h=>by
   cases v<;>simp only[A8,Bool.and_eq_true,Bool.false_eq_true]at h
   obtain⟨⟨⟨h1,h2⟩,h3⟩,h4⟩:=h
   rw[Nat.eq_of_beq_eq_true h1,Nat.eq_of_beq_eq_true h2,Nat.eq_of_beq_eq_true h3,Nat.eq_of_beq_eq_true h4]
 | .ref o g i n,v,h=>by
   cases v<;>simp only[A8,Bool.and_eq_true,Bool.false_eq_true]at h
   obtain⟨⟨⟨h1,h2⟩,h3⟩,h4⟩:=h
   rw[Nat.eq_of_beq_eq_true h1,Nat.eq_of_beq_eq_true h2,Nat.eq_of_beq_eq_true h3,Nat.eq_of_beq_eq_true h4]
 | .map o g,v,h=>by
   cases v<;>simp only[A8,Bool.and_eq_true,Bool.false_eq_true]at h
   rw[Nat.eq_of_beq_eq_true h.1,Nat.eq_of_beq_eq_true h.2]
 | .CS l,v,h=>by
   cases v<;>simp only[A8,Bool.false_eq_true]at h
   rw[Q7 l h]
 | .agg l,v,h=>by
   cases v<;>simp only[A8,Bool.false_eq_true]at h
   rw[Q7 l h]
 | .zc,v,h=>by cases v<;>simp[A8]at h
 | .Dy l,v,h=>by cases v<;>simp[A8]at h
 | .fn f l,v,h=>by cases v<;>simp[A8]at h
 | .fmap l,v,h=>by cases v<;>simp[A8]at h
 | .iface t x,v,h=>by cases v<;>simp[A8]at h
 | .IL,v,h=>by cases v<;>simp[A8]at h
 | .Cj,v,h=>by cases v<;>simp[A8]at h
 | .ET,v,h=>by cases v<;>simp[A8]at h
 | .Gl,v,h=>by cases v<;>simp[A8]at h
 | .undef,v,h=>by cases v<;>simp[A8]at h
 | .junk,v,h=>by cases v<;>simp[A8]at h
theorem Q7:∀(l:List AV) {r:List AV},Io l r=true→l=r
 |[],[],_=>rfl
 |[],_::_,h=>by simp[Io]at h
 |x::l,[],h=>by simp[Io]at h
 |x::l,y::r,h=>by
  simp only[Io,Bool.and_eq_true]at h
  rw[XY x h.1,Q7 l h.2]
end
theorem Tq {u v:AV} (h:A8 u v=true):u=v:=XY u h
theorem Tt {C:Aq} {op:BN} {env:Env} {v:AV} (hp:op.EM=true):∀{past:List Ag},JF C op env v past=true→∀S∈past,Ae C op env S=some (.ok v,S)
 |[],_,S,h=>by simp at h
 |S0::r,hk,S,h=>by
  simp only[JF]at hk
  split at hk
  ·rename_i u s' hop
   simp only[Bool.and_eq_true]at hk
   obtain rfl:=Tq hk.1
   rcases List.mem_cons.1 h with rfl|h
   ·obtain⟨rfl,_⟩:=Gq hp hop
    exact hop
   ·exact Tt hp hk.2 S h
  ·cases hk
theorem Tv {C:Aq} {S:Ag}:∀{pend:List (BN×Env×AV)},JG C S pend=true→∀q∈pend,q.1.EM=true→Ae C q.1 q.2.1 S=some (.ok q.2.2,S)
 |[],_,q,h,_=>by simp at h
 |(op,env,v)::r,hk,q,h,hp=>by
  simp only[JG]at hk
  split at hk
  ·rename_i u s' hop
   simp only[Bool.and_eq_true]at hk
   obtain rfl:=Tq hk.1
   rcases List.mem_cons.1 h with rfl|h
   ·obtain⟨rfl,_⟩:=Gq hp hop
    exact hop
   ·exact Tv hk.2 q h hp
  ·cases hk
def Stg (s:Ag) (past:List Ag) (es:List (Option Nat×AV×Option Ag)) (S:Ag):Prop:=S∈past∨S=s∨∃(k:Nat) (d:Option Nat) (v:AV),es[k]?=some (d,v,some S)
abbrev U4:=Option Nat×AV×Option Ag
def AfH (C:Aq) (m:Nat) (W:List Nat) (o:Ap) (e:U4) (k:Nat) (env:Env) (s:Ag):Prop:=
 e.1=o.dst∧((wanted o.guard env=some false∧e.2.1=.undef∧e.2.2=none)∨
    (wanted o.guard env=some true∧∃s1,Ae C o.op env s=some (.ok e.2.1,s1)∧
      ((e.2.2=none∧(Dp k W=true∨flt o=true∨k<m))∨(e.2.2=some s1∧flt o=false∧m≤k∧Dp k W=false))))
structure OT (C:Aq) (m:Nat) (W:List Nat) (os:List Ap) (i:Nat) (env:Env) (s:Ag) (past:List Ag) (es:List U4) (dead:Nat→Bool):Prop where
 len:es.length=os.length
 ent:∀(k:Nat) (o:Ap),os[k]?=some o→dead k=false→∃e,es[k]?=some e∧AfH C m W o e (i+k) (AX (fun q=>decide (q<i+k)) (MQ es) i env) (Ej (fun q=>decide (q<i+k)) es i s)
 die:∀(k:Nat) (o:Ap),os[k]?=some o→dead k=true→es[k]?=some (none,.junk,none)
 wob:∀(k:Nat) (o:Ap) (e:U4),os[k]?=some o→dead k=false→es[k]?=some e→Dp (i+k) W=true→wanted o.guard (AX (fun q=>decide (q<i+k)) (MQ es) i env)=some true→∀S,Stg s past es S→Ae C o.op (AX (fun q=>decide (q<i+k)) (MQ es) i env) S=some (.ok e.2.1,S)
def XZ (C:Aq) (m:Nat) (W pc:List Nat) (os:List Ap) (i:Nat) (env:Env) (s:Ag) (es:List U4) (dead:Nat→Bool) (e:Az) (env':Env) (s':Ag):Prop:=
 (e=.normal∧(∀ k,dead k=false)∧AX (fun _=>true) (MQ es) i env=env'∧Ej (fun _=>true) es i s=s')∨
 ∃v p o E,e=.Ee v∧env'=[]∧pc=(i+p)::E∧os[p]?=some o∧dead p=true∧flt o=false∧m≤i+p∧Dp (i+p) W=false∧
  wanted o.guard (AX (fun q=>decide (q<i+p)) (MQ es) i env)=some true∧Ae C o.op (AX (fun q=>decide (q<i+p)) (MQ es) i env) (Ej (fun q=>decide (q<i+p)) es i s)=some (.Ee v,s')∧
  ∀k,dead k=true→k=p∨p<k∧Dp (i+k) E=false
theorem J7 {es:List U4} {e:U4} {i k:Nat} {env:Env}:AX (fun q=>decide (q<i+(k+1))) (MQ (e::es)) i env=AX (fun q=>decide (q<i+1+k)) (MQ es) (i+1) (put e.1 e.2.1 env):=by
 obtain⟨d,v,x⟩:=e
 simp only[MQ,List.map_cons,AX]
 rw[if_pos (by simp)]
 congr 1
 funext q
 rw[show i+(k+1)=i+1+k by omega]
theorem Tz {es:List U4} {e:U4} {i k:Nat} {s:Ag}:Ej (fun q=>decide (q<i+(k+1))) (e::es) i s=Ej (fun q=>decide (q<i+1+k)) es (i+1) (e.2.2.getD s):=by
 obtain⟨d,v,x⟩:=e
 simp only[Ej]
 rw[if_pos (by simp)]
 congr 1
 funext q
 rw[show i+(k+1)=i+1+k by omega]
theorem Md {es:List U4} {i:Nat} {env:Env}:AX (fun q=>decide (q<i+0)) (MQ es) i env=env:=FH _ i env fun k _=>by simp
theorem U5 {es:List U4} {i:Nat} {s:Ag}:Ej (fun q=>decide (q<i+0)) es i s=s:=PV _ i s fun k _ _ _ _=>by simp
theorem OT.cons {C:Aq} {m:Nat} {W:List Nat} {o:Ap} {os:List Ap} {i:Nat} {env:Env} {s s2:Ag} {past AfI:List Ag} {es:List U4} {dead:Nat→Bool} {e:U4} {b:Bool}
 (h:OT C m W os (i+1) (put e.1 e.2.1 env) s2 AfI es dead) (hx:e.2.2.getD s=s2) (hb:b=false→AfH C m W o e i env s) (hd:b=true→e=(none,.junk,none)) (hs:∀S,Stg s past (e::es) S→Stg s2 AfI es S)
 (hw:b=false→Dp i W=true→wanted o.guard env=some true→∀S,Stg s past (e::es) S→Ae C o.op env S=some (.ok e.2.1,S)):
 OT C m W (o::os) i env s past (e::es) (fun k=>match k with|0=>b|k+1=>dead k) where
 len:=by simp[h.len]
 ent:=fun k o' hk hdk=>by
  cases k with
  |zero=>
   simp only[List.getElem?_cons_zero,Option.some.injEq]at hk
   subst hk
   exact⟨e,rfl,by rw[Md,U5];exact hb hdk⟩
  |succ k=>
   obtain⟨e',h1,h2⟩:=h.ent k o' (by simpa using hk) hdk
   refine⟨e',by simpa using h1,?_⟩
   rw[J7,Tz,hx,show i+(k+1)=i+1+k by omega]
   exact h2
 die:=fun k o' hk hdk=>by
  cases k with
  |zero=>rw[hd hdk];rfl
  |succ k=>simpa using h.die k o' (by simpa using hk) hdk
 wob:=fun k o' e' hk hdk hek hm hwt S hS=>by
  cases k with
  |zero=>
   simp only[List.getElem?_cons_zero,Option.some.injEq]at hk hek
   subst hk hek
   rw[Md]at hwt ⊢
   exact hw hdk (by simpa using hm) hwt S hS
  |succ k=>
   rw[J7]at hwt ⊢
   rw[show i+(k+1)=i+1+k by omega]at hm
   exact h.wob k o' e' (by simpa using hk) hdk (by simpa using hek) hm hwt S (hs S hS)
theorem XZ.cons {C:Aq} {m:Nat} {W pc:List Nat} {o:Ap} {os:List Ap} {i:Nat} {env env':Env} {s s2 s':Ag} {es:List U4} {dead:Nat→Bool} {e:U4} {x:Az}
 (h:XZ C m W pc os (i+1) (put e.1 e.2.1 env) s2 es dead x env' s') (hx:e.2.2.getD s=s2):XZ C m W pc (o::os) i env s (e::es) (fun k=>match k with|0=>false|k+1=>dead k) x env' s':=by
 rcases h with⟨h1,h2,h3,h4⟩|⟨v,p,o',E,h1,h2,h3,h4,h5,h6,h7,h8,h9,h10,h11⟩
 ·refine .inl ⟨h1,fun k=>?_,?_,?_⟩
  ·cases k with
   |zero=>rfl
   |succ k=>exact h2 k
  ·obtain⟨d,v,y⟩:=e
   simpa only[MQ,List.map_cons,AX,if_true]using h3
  ·obtain⟨d,v,y⟩:=e
   simpa only[Ej,if_true,hx]using h4
 ·refine .inr ⟨v,p+1,o',E,h1,h2,by rw[h3];congr 1;omega,by simpa using h4,h5,h6,by omega,by rw[← h8];congr 1;omega,?_,?_,fun k hk=>?_⟩
  ·rw[J7];exact h9
  ·rw[J7,Tz,hx];exact h10
  ·cases k with
   |zero=>cases hk
   |succ k=>
    rcases h11 k hk with rfl|⟨q1,q2⟩
    ·exact .inl rfl
    ·exact .inr ⟨by omega,by rw[← q2];congr 1;omega⟩
theorem Stg.tail {s:Ag} {past:List Ag} {es:List U4} {d:Option Nat} {v:AV} {S:Ag} (h:Stg s past ((d,v,none)::es) S):Stg s past es S:=by
 rcases h with h|h|⟨k,d',u,hk⟩
 ·exact .inl h
 ·exact .inr (.inl h)
 ·cases k with
  |zero=>simp at hk
  |succ k=>exact .inr (.inr ⟨k,d',u,by simpa using hk⟩)
theorem J8 {C:Aq} {m:Nat} {W E:List Nat} (hm:∀i,Dp i E=true→Dp i W=false):∀{os:List Ap} {i:Nat} {env:Env} {s:Ag} {past:List Ag},DW C E os i env s=true→
 ∃es,OT C m W os i env s past es (fun k=>!Dp (i+k) E)∧∀(k:Nat) (d:Option Nat) (v:AV) (S:Ag),es[k]?≠some (d,v,some S)
 |[],i,env,s,past,_=>⟨[],⟨rfl,fun k o hk=>by simp at hk,fun k o hk=>by simp at hk,fun k o e hk=>by simp at hk⟩,fun k d v S=>by simp⟩
 |o::os,i,env,s,past,h=>by
  have eqd:(fun k=>!Dp (i+k) E)=(fun k=>match k with|0=>!Dp i E|k+1=>!Dp (i+1+k) E):=by
   funext k
   cases k with
   |zero=>rfl
   |succ k=>show(!Dp (i+(k+1)) E)=_;rw[show i+(k+1)=i+1+k by omega]
  have nos:∀(e:U4) (es:List U4),e.2.2=none→(∀ (k:Nat) (d:Option Nat) (v:AV) (S:Ag),es[k]?≠some (d,v,some S))→∀(k:Nat) (d:Option Nat) (v:AV) (S:Ag),(e::es)[k]?≠some (d,v,some S):=by
   intro e es he hes k d v S hk
   cases k with
   |zero=>
    simp only[List.getElem?_cons_zero,Option.some.injEq]at hk
    subst hk
    cases he
   |succ k=>exact hes k d v S (by simpa using hk)
  simp only[DW]at h
  split at h
  ·rename_i hmi
   split at h
   ·rename_i hw
    split at h
    ·rename_i v s1 hop
     rw[Bool.and_eq_true]at h
     obtain⟨es,h1,h2⟩:=J8 hm (past:=past) h.2
     refine⟨(o.dst,v,none)::es,?_,nos _ _ rfl h2⟩
     rw[eqd]
     exact OT.cons (e:=(o.dst,v,none)) h1 rfl (fun _=>⟨rfl,.inr ⟨hw,s1,hop,.inl ⟨rfl,.inr (.inl h.1)⟩⟩⟩) (fun hb=>by rw[hmi]at hb;cases hb) (fun S hS=>hS.tail) (fun _ hmw=>by rw[hm i hmi]at hmw;cases hmw)
    ·cases h
   ·rename_i hw
    obtain⟨es,h1,h2⟩:=J8 hm (past:=past) h
    refine⟨(o.dst,.undef,none)::es,?_,nos _ _ rfl h2⟩
    rw[eqd]
    exact OT.cons (e:=(o.dst,.undef,none)) h1 rfl (fun _=>⟨rfl,.inl ⟨hw,rfl,rfl⟩⟩) (fun hb=>by rw[hmi]at hb;cases hb) (fun S hS=>hS.tail) (fun _ hmw=>by rw[hm i hmi]at hmw;cases hmw)
   ·cases h
  ·rename_i hmi
   simp only[Bool.not_eq_true]at hmi
   obtain⟨es,h1,h2⟩:=J8 hm (past:=past) h
   refine⟨(none,.junk,none)::es,?_,nos _ _ rfl h2⟩
   rw[eqd]
   exact OT.cons (e:=(none,.junk,none)) (by simpa[put]using h1) rfl (fun hb=>by rw[hmi]at hb;cases hb) (fun _=>rfl) (fun S hS=>hS.tail) (fun hb=>by rw[hmi]at hb;cases hb)
theorem Lm {C:Aq} {m:Nat} {W pc:List Nat} (hpw:∀p E,pc=p::E→∀i,Dp i E=true→Dp i W=false):∀{os:List Ap} {i:Nat} {env env':Env} {s s':Ag} {pend:List (BN×Env×AV)} {past:List Ag} {x:Az},(∀ k o,os[k]?=some o→i+k<m→o.op.EM=true)→(∀ q∈pend,q.1.EM=true)→
 FB C m W pc os i env s pend past=some (x,env',s')→
 ∃es dead,OT C m W os i env s past es dead∧XZ C m W pc os i env s es dead x env' s'∧(∀ q∈pend,∀(k:Nat) (d:Option Nat) (v:AV) (S:Ag),es[k]?=some (d,v,some S)→Ae C q.1 q.2.1 S=some (.ok q.2.2,S))
 |[],i,env,env',s,s',pend,past,x,_,_,h=>by
  simp only[FB,Option.some.injEq,Prod.mk.injEq]at h
  obtain⟨rfl,rfl,rfl⟩:=h
  exact⟨[],fun _=>false,⟨rfl,fun k o hk=>by simp at hk,fun k o hk=>by simp at hk,fun k o e hk=>by simp at hk⟩,.inl ⟨rfl,fun _=>rfl,rfl,rfl⟩,fun q _ k d v S hk=>by simp at hk⟩
 |o::os,i,env,env',s,s',pend,past,x,hp,hq,h=>by
  have hp':∀k o',os[k]?=some o'→(i+1)+k<m→o'.op.EM=true:=fun k o' hk hlt=>hp (k+1) o' (by simpa using hk) (by omega)
  have pst:∀(e:U4) (es:List U4) (q:BN×Env×AV),(∀ S,e.2.2=some S→Ae C q.1 q.2.1 S=some (.ok q.2.2,S))→(∀ (k:Nat) (d:Option Nat) (v:AV) (S:Ag),es[k]?=some (d,v,some S)→Ae C q.1 q.2.1 S=some (.ok q.2.2,S))→∀(k:Nat) (d:Option Nat) (v:AV) (S:Ag),(e::es)[k]?=some (d,v,some S)→Ae C q.1 q.2.1 S=some (.ok q.2.2,S):=by
   intro e es q h0 h1 k d v S hk
   cases k with
   |zero=>
    simp only[List.getElem?_cons_zero,Option.some.injEq]at hk
    subst hk
    exact h0 S rfl
   |succ k=>exact h1 k d v S (by simpa using hk)
  simp only[FB]at h
  split at h
  ·cases h
  ·rename_i hw
   obtain⟨es,dead,h1,h2,h3⟩:=Lm hpw hp' hq h
   exact⟨(o.dst,.undef,none)::es,_,OT.cons (e:=(o.dst,.undef,none)) (b:=false) h1 rfl (fun _=>⟨rfl,.inl ⟨hw,rfl,rfl⟩⟩) (fun hb=>by cases hb) (fun S hS=>hS.tail) (fun _ _ hw'=>by rw[hw]at hw';cases hw'),h2.cons rfl,fun q hqm=>pst _ _ q (fun S hS=>by cases hS) (h3 q hqm)⟩
  ·rename_i hw
   split at h
   ·rename_i v s1 hop
    split at h
    ·rename_i hm
     split at h
     ·rename_i hc
      simp only[Bool.and_eq_true]at hc
      obtain⟨es,dead,h1,h2,h3⟩:=Lm hpw hp' (fun q hqm=>(List.mem_cons.1 hqm).elim (fun e=>e▸hc.1) (hq q)) h
      refine⟨(o.dst,v,none)::es,_,OT.cons (e:=(o.dst,v,none)) (b:=false) h1 rfl (fun _=>⟨rfl,.inr ⟨hw,s1,hop,.inl ⟨rfl,.inl hm⟩⟩⟩) (fun hb=>by cases hb) (fun S hS=>hS.tail) (fun _ _ _ S hS=>?_),h2.cons rfl,fun q hqm=>pst _ _ q (fun S hS=>by cases hS) (h3 q (List.mem_cons_of_mem _ hqm))⟩
      rcases hS.tail with hS|rfl|⟨k,d,u,hk⟩
      ·exact Tt hc.1 hc.2 S hS
      ·obtain⟨rfl,_⟩:=Gq hc.1 hop
       exact hop
      ·exact h3 (o.op,env,v) (by simp) k d u S hk
     ·cases h
    ·rename_i hm
     simp only[Bool.not_eq_true]at hm
     split at h
     ·rename_i hf
      obtain⟨es,dead,h1,h2,h3⟩:=Lm hpw hp' hq h
      exact⟨(o.dst,v,none)::es,_,OT.cons (e:=(o.dst,v,none)) (b:=false) h1 rfl (fun _=>⟨rfl,.inr ⟨hw,s1,hop,.inl ⟨rfl,.inr (by simpa using hf)⟩⟩⟩) (fun hb=>by cases hb) (fun S hS=>hS.tail) (fun _ hmw=>by rw[hm]at hmw;cases hmw),h2.cons rfl,fun q hqm=>pst _ _ q (fun S hS=>by cases hS) (h3 q hqm)⟩
     ·rename_i hf
      simp only[Bool.or_eq_true,Nat.blt_eq,not_or,Bool.not_eq_true]at hf
      split at h
      ·rename_i hpo
       obtain⟨es,dead,h1,h2,h3⟩:=Lm hpw hp' hq h
       refine⟨(o.dst,v,some s1)::es,_,OT.cons (e:=(o.dst,v,some s1)) (b:=false) h1 rfl (fun _=>⟨rfl,.inr ⟨hw,s1,hop,.inr ⟨rfl,hf.1,by omega,hm⟩⟩⟩) (fun hb=>by cases hb) ?_ (fun _ hmw=>by rw[hm]at hmw;cases hmw),h2.cons rfl,fun q hqm=>pst _ _ q (fun S hS=>?_) (h3 q hqm)⟩
       ·rintro S (hS|rfl|⟨k,d,u,hk⟩)
        ·exact .inl (List.mem_cons_of_mem _ hS)
        ·exact .inl (by simp)
        ·cases k with
         |zero=>
          simp only[List.getElem?_cons_zero,Option.some.injEq,Prod.mk.injEq]at hk
          exact .inr (.inl hk.2.2.symm)
         |succ k=>exact .inr (.inr ⟨k,d,u,by simpa using hk⟩)
       ·cases hS
        exact Tv hpo q hqm (hq q hqm)
      ·cases h
   ·rename_i v s1 hop
    split at h
    ·rename_i p E
     split at h
     ·rename_i hc
      simp only[Option.some.injEq,Prod.mk.injEq]at h
      obtain⟨rfl,rfl,rfl⟩:=h
      simp only[Bool.and_eq_true,Bool.not_eq_true',Bool.or_eq_false_iff]at hc
      obtain⟨⟨hip,hmw,hf,hlt⟩,he⟩:=hc
      obtain rfl:i=p:=Nat.eq_of_beq_eq_true hip
      have hge:m≤i:=by
       rcases Nat.lt_or_ge i m with h|h
       ·rw[show Nat.blt i m=true by simpa using h]at hlt;cases hlt
       ·exact h
      obtain⟨es,h1,h2⟩:=J8 (m:=m) (W:=W) (hpw _ _ rfl) (past:=past) he
      refine⟨(none,.junk,none)::es,_,OT.cons (e:=(none,.junk,none)) (b:=true) (by simpa[put]using h1) rfl (fun hb=>by cases hb) (fun _=>rfl) (fun S hS=>hS.tail) (fun hb=>by cases hb),.inr ⟨v,0,o,E,rfl,rfl,rfl,rfl,rfl,hf,hge,hmw,by rw[Md];exact hw,by rw[Md,U5];exact hop,fun k hk=>?_⟩,fun q hqm=>pst _ _ q (fun S hS=>by cases hS) (fun k d v S hk=>absurd hk (h2 k d v S))⟩
      cases k with
      |zero=>exact .inl rfl
      |succ k=>
       refine .inr ⟨by omega,?_⟩
       simpa[show i+(k+1)=i+1+k by omega]using hk
     ·cases h
    ·cases h
   ·cases h
theorem X0 {L:Nat→Bool} {past:List Ag}:∀(es:List (Option Nat×AV×Option Ag)) (i:Nat) (s:Ag),Stg s past es (Ej L es i s)
 |[],i,s=>.inr (.inl rfl)
 |(d,v,x)::es,i,s=>by
  simp only[Ej]
  rcases X0 (L:=L) (past:=past) es (i+1) (if L i then x.getD s else s)with h|h|⟨k,d',v',hk⟩
  ·exact .inl h
  ·rw[h]
   split
   ·cases x with
    |none=>exact .inr (.inl rfl)
    |some S=>exact .inr (.inr ⟨0,d,v,rfl⟩)
   ·exact .inr (.inl rfl)
  ·exact .inr (.inr ⟨k+1,d',v',by simpa using hk⟩)
theorem Abk {C:Aq} (hC:Ar P C) {ops:Array Oper} {n:Nat} {an:List (Nat×FZ)} {Bl:List Ap} (hcomp:Cc P ops n an ops.toList 0=some Bl) {m:Nat} {W pc:List Nat} (hok:AfF ops Bl m W pc) (hpure:DJ m Bl=true) {Q:Exit→Act→World→Prop}
 {env:Env} {s:Ag} {es:List U4} {dead:Nat→Bool} {xe:Az} {env':Env} {s':Ag} (htr:OT C m W Bl 0 env s [] es dead) (hend:XZ C m W pc Bl 0 env s es dead xe env' s'):
 ∀(fuel:Nat) (listed:Array Bool) (a:Act) (w:World) (Z:Bh) (φ:D8),ops.size≤cnt (AU listed) ops.size+fuel→listed.size=ops.size→Closed ops (AU listed)→(∀ i,AU listed i=true→i<ops.size∧dead i=false)→Inv w0 B (Ej (AU listed) es 0 s) Z φ w→Ak w Z φ (Ej (AU listed) es 0 s).ctr (AX (AU listed) (MQ es) 0 env) a.tmps→a.tmps.size=n→
  Post w0 B w Z φ (Ej (AU listed) es 0 s).ctr n a.defers xe env' s' Q→
  wpAny P .any ops Q fuel listed a w:=by
 obtain⟨hlen,hget⟩:=CU hcomp
 have hlen':Bl.length=ops.size:=by simpa using hlen
 have hel:=htr.len
 have Alb:es.length=ops.size:=by rw[hel,hlen']
 have hvl:(MQ es).length=ops.size:=by unfold MQ;rw[List.length_map,Alb]
 have fin:∀(listed:Array Bool) (a:Act) (w:World) (Z:Bh) (φ:D8),(∀ i,i<ops.size→AU listed i=true)→(∀ i,AU listed i=true→dead i=false)→Inv w0 B (Ej (AU listed) es 0 s) Z φ w→Ak w Z φ (Ej (AU listed) es 0 s).ctr (AX (AU listed) (MQ es) 0 env) a.tmps→a.tmps.size=n→
  Post w0 B w Z φ (Ej (AU listed) es 0 s).ctr n a.defers xe env' s' Q→Q .normal a w:=by
  intro listed a w Z φ hall hdl hI hE hn hp
  rcases hend with⟨rfl,_,rfl,rfl⟩|⟨vp,p,op,E,rfl,rfl,hpc,hop,hdp,_⟩
  rotate_left
  ·have:=hdl p (hall p (by have:=(List.getElem?_eq_some_iff.1 hop).1;omega))
   rw[hdp]at this;cases this
  have e1:AX (AU listed) (MQ es) 0 env=AX (fun _=>true) (MQ es) 0 env:=Gt _ 0 env fun k hk=>by rw[Nat.zero_add];exact hall k (by omega)
  have e2:Ej (AU listed) es 0 s=Ej (fun _=>true) es 0 s:=Gw _ 0 s fun k d v s1 hk=>by
   rw[Nat.zero_add];exact hall k (by have:=(List.getElem?_eq_some_iff.1 hk).1;omega)
  rw[e1]at hE
  rw[e2]at hI hE hp
  exact hp .normal a w Z φ rfl hn rfl hI hE (Later.refl _ _ _ _ _)
 intro fuel
 induction fuel with
 |zero=>
  intro listed a w Z φ hf hsz hcl Ug hI hE hn hp
  have hfull:=N8 (L:=AU listed) (n:=ops.size) (by have:=cnt_le (AU listed) ops.size;omega)
  refine⟨?_,fin listed a w Z φ hfull (fun i h=>(Ug i h).2) hI hE hn hp⟩
  rw[List.eq_nil_iff_forall_not_mem]
  intro i hi
  obtain⟨o,ho,hl,_⟩:=(CG hsz).1 hi
  have hlt:=(Array.getElem?_eq_some_iff.1 ho).1
  rw[hfull i hlt]at hl;cases hl
 |succ fuel ih=>
  intro listed a w Z φ hf hsz hcl Ug hI hE hn hp
  refine⟨fun hr=>?_,fun i hi=>?_⟩
  ·refine fin listed a w Z φ ?_ (fun i h=>(Ug i h).2) hI hE hn hp
   intro j
   induction j using Nat.strongRecOn with
   |_ j ihj=>
    intro hj
    cases hl:AU listed j
    ·exfalso
     have hoj:ops[j]?=some ops[j]:=Array.getElem?_eq_getElem hj
     have:j∈Region.ready .any ops listed:=(CG hsz).2 ⟨_,hoj,hl,fun e' he' hb=>by
        have:=hok.fwd j _ hoj e' he' hb
        exact ihj _ this (by omega)⟩
     rw[hr]at this
     cases this
    ·rfl
  ·obtain⟨o,ho,hl,Ku⟩:=(CG hsz).1 hi
   have hilt:=(Array.getElem?_eq_some_iff.1 ho).1
   have bit:∀k,((Region.before ops).getD i 0).testBit k=true→AU listed k=true:=fun k hb=>BU hok.fwd hcl i o ho Ku hb
   have later:∀k ok,ops[k]?=some ok→((Region.before ops).getD k 0).testBit i=true→AU listed k=false:=fun k ok hok' hb=>by
        cases hq:AU listed k
        ·rfl
        ·have:=BU hok.fwd hcl k ok hok' (fun e' he' hb=>hcl k _ hok' hq e' he' hb) hb
         rw[hl]at this;cases this
   obtain⟨ao,hao,h1,h2,h3,h4⟩:=hget i o (by simpa using ho)
   have entry:∀(k:Nat) (d:Option Nat) (u:AV) (y:Option Ag),es[k]?=some (d,u,y)→((∃ t,d=some t)∨∃s1,y=some s1)→∃(hk:k<ops.size) (ak:Ap),Bl[k]?=some ak∧ak.dst=d∧ops[k].dst=d∧∀s1,y=some s1→flt ak=false∧m≤k∧Dp k W=false:=by
        intro k d u y hk hnd
        have hks:k<ops.size:=by have:=(List.getElem?_eq_some_iff.1 hk).1;omega
        have hok':ops[k]?=some ops[k]:=Array.getElem?_eq_getElem hks
        obtain⟨ak,hak,_,_,hdk,_⟩:=hget k _ (by rw[Array.getElem?_toList];exact hok')
        cases hdd:dead k with
        |true=>
         have:=htr.die k ak hak hdd
         rw[hk]at this
         simp only[Option.some.injEq,Prod.mk.injEq]at this
         rcases hnd with⟨t,h⟩|⟨s1,h⟩
         ·rw[this.1]at h;cases h
         ·rw[this.2.2]at h;cases h
        |false=>
         obtain⟨e,hvk,hd1,hor⟩:=htr.ent k ak hak hdd
         rw[hk]at hvk
         cases hvk
         simp only[Nat.zero_add]at hor hd1
         subst hd1
         refine⟨hks,ak,hak,rfl,hdk.symm,fun s1 hy=>?_⟩
         rcases hor with⟨_,_,hn⟩|⟨_,s2,_,⟨hn,_⟩|⟨_,hf,hmk,hmw⟩⟩
         ·rw[hn]at hy;cases hy
         ·rw[hn]at hy;cases hy
         ·exact⟨hf,hmk,hmw⟩
   have Adb:∀(k:Nat) (d:Option Nat) (u:AV),(MQ es)[k]?=some (d,u)→∃y,es[k]?=some (d,u,y):=by
        intro k d u hk
        unfold MQ at hk
        rw[List.getElem?_map,Option.map_eq_some_iff]at hk
        obtain⟨⟨d',u',y⟩,h1,h2⟩:=hk
        simp only[Prod.mk.injEq]at h2
        obtain⟨rfl,rfl⟩:=h2
        exact⟨y,h1⟩
   have same:∀t∈slotsOf ao,(AX (AU listed) (MQ es) 0 env).get t=(AX (fun q=>decide (q<i)) (MQ es) 0 env).get t:=by
        intro t ht
        rw[CV,CV]
        refine BZ _ 0 _ fun k d u hk hd=>?_
        rw[Nat.zero_add]
        obtain⟨y,hy⟩:=Adb k d u hk
        obtain⟨hks,ak,hak,_,hdk,_⟩:=entry k d u y hy (.inl ⟨t,hd⟩)
        have hok':ops[k]?=some ops[k]:=Array.getElem?_eq_getElem hks
        by_cases hki:k=i
        ·subst hki;rw[hl];simp
        ·have:=hok.tmp i ao hao hilt k _ t hki hok' (hdk.trans hd) ht
         split at this
         ·rename_i hlt
          rw[bit k this];simp[hlt]
         ·rename_i hlt
          rw[later k _ hok' this];simp[hlt]
   have hwc:wanted ao.guard (AX (AU listed) (MQ es) 0 env)=wanted ao.guard (AX (fun q=>decide (q<i)) (MQ es) 0 env):=Hy fun t b hg=>same t (by simp[slotsOf,hg])
   have hec:∀s2,Ae C ao.op (AX (AU listed) (MQ es) 0 env) s2=Ae C ao.op (AX (fun q=>decide (q<i)) (MQ es) 0 env) s2:=fun s2=>Oc fun x hx=>Hw fun t ht=>same t (by simp only[slotsOf,List.mem_append,List.mem_flatMap];exact .inl (.inr ⟨x,hx,ht⟩))
   have stg:m≤i→flt ao=false→Dp i W=false→Ej (AU listed) es 0 s=Ej (fun q=>decide (q<i)) es 0 s:=fun hmi hf hmw=>Gw _ 0 s fun k d u s2 hk=>by
        rw[Nat.zero_add]
        obtain⟨hks,ak,hak,_,_,hac⟩:=entry k d u _ hk (.inr ⟨_,rfl⟩)
        obtain⟨q1,q2,q3⟩:=hac s2 rfl
        by_cases hki:k=i
        ·subst hki;rw[hl];simp
        ·rcases Nat.lt_or_ge k i with hlt|hge
         ·rw[bit k (hok.tail i ao hao hilt hmi hf hmw k ak hlt hak q1 q3)];simp[hlt]
         ·rw[later k _ (Array.getElem?_eq_getElem hks) (hok.tail k ak hak hks q2 q1 q3 i ao (by omega) hao hf hmw)]
          simp;omega
   cases hdi:dead i with
   |true=>
    rcases hend with⟨_,hd0,_⟩|⟨vp,p,op,E,rfl,rfl,hpc,hop,hdp,hfp,hmp,hwp,hwt,hev,hdd⟩
    ·rw[hd0 i]at hdi;cases hdi
    simp only[Nat.zero_add]at hpc hmp hwp hwt hev hdd
    rcases hdd i hdi with rfl|⟨hpi,hmE⟩
    ·rw[hao]at hop
     cases hop
     refine Fj hC ho h1 h2 h3 h4 hI hE hn (.inr ⟨by rw[hwc];exact hwt,.Ee vp,s',by rw[stg hmp hfp hwp,hec];exact hev,(fun v hv=>by cases hv),fun v hv=>?_⟩)
     cases hv
     exact fun e' a' w' Z' φ' q1 q2 q3 q4 q5 q6=>hp e' a' w' Z' φ' q1 q2 q3 q4 (fun t=>.junk _) q6
    ·have:=(Ug p (bit p (hok.Ee p E hpc i hilt hpi hmE))).2
     rw[hdp]at this;cases this
   |false=>
   obtain⟨⟨d0,v,x⟩,hv,hd1,hvw⟩:=htr.ent i ao hao hdi
   simp only[Nat.zero_add]at hvw hd1
   subst hd1
   have hsz':(listed.setIfInBounds i true).size=ops.size:=by simpa using hsz
   have hset:∀k,AU (listed.setIfInBounds i true) k=if k=i then true else AU listed k:=Hu (by omega)
   have hcl':Closed ops (AU (listed.setIfInBounds i true)):=by
        intro k ok hk hlk e' he' hb
        rw[hset]at hlk ⊢
        by_cases hki:k=i
        ·subst hki
         rw[ho]at hk
         cases hk
         split
         ·rfl
         ·exact Ku e' he' hb
        ·rw[if_neg hki]at hlk
         split
         ·rfl
         ·exact hcl k ok hk hlk e' he' hb
   have VA:∀k,AU (listed.setIfInBounds i true) k=true→k<ops.size∧dead k=false:=by
        intro k hk
        rw[hset]at hk
        split at hk
        ·rename_i hki;subst hki;exact⟨by omega,hdi⟩
        ·exact Ug k hk
   have hcnt:ops.size≤cnt (AU (listed.setIfInBounds i true)) ops.size+fuel:=by
        rw[N9 (i:=i) hl (by rw[hset];simp) (fun k hk=>by rw[hset,if_neg hk])]
        simp[hilt];omega
   have hvi:(MQ es)[i]?=some (ao.dst,v):=by unfold MQ;rw[List.getElem?_map,hv];rfl
   have frame:∀t,(AI.put ao.dst v (AX (AU listed) (MQ es) 0 env)).get t=(AX (AU (listed.setIfInBounds i true)) (MQ es) 0 env).get t:=by
        intro t
        rw[get_put,CV,CV]
        by_cases hd:ao.dst=some t
        ·rw[if_pos hd]
         refine(Jl (j:=i) _ 0 _ (by rw[hvi,hd]) (by rw[Nat.zero_add,hset];simp) fun k d u hk hdk hlt=>?_).symm
         rw[Nat.zero_add,hset,if_neg (by omega)]
         obtain⟨y,hy⟩:=Adb k d u hk
         obtain⟨hks,ak,hak,_,Ab7,_⟩:=entry k d u y hy (.inl ⟨t,hdk⟩)
         have hok':ops[k]?=some ops[k]:=Array.getElem?_eq_getElem hks
         have:=hok.tmp i ao hao hilt k _ t (by omega) hok' (Ab7.trans hdk) (by simp[slotsOf,hd])
         rw[if_neg (by omega)]at this
         exact later k _ hok' this
        ·rw[if_neg hd]
         refine BZ _ 0 _ fun k d u hk hdk=>?_
         rw[Nat.zero_add,hset]
         by_cases hki:k=i
         ·subst hki
          rw[hvi]at hk
          simp only[Option.some.injEq,Prod.mk.injEq]at hk
          exact absurd (hk.1.trans hdk) hd
         ·rw[if_neg hki]
   have Xj:∀{w':World} {Z':Bh} {φ':D8} {c:Nat} {a':Act},Ak w' Z' φ' c (AI.put ao.dst v (AX (AU listed) (MQ es) 0 env)) a'.tmps→Ak w' Z' φ' c (AX (AU (listed.setIfInBounds i true)) (MQ es) 0 env) a'.tmps:=by
        intro w' Z' φ' c a' h t
        rw[← frame t]
        exact h t
   have keep:x=none→Ej (AU (listed.setIfInBounds i true)) es 0 s=Ej (AU listed) es 0 s:=fun hx=>by
        refine Gw _ 0 s fun k d u s1 hk=>?_
        rw[Nat.zero_add,hset]
        by_cases hki:k=i
        ·subst hki
         rw[hv,hx]at hk
         simp at hk
        ·rw[if_neg hki]
   refine Fj hC ho h1 h2 h3 h4 hI hE hn ?_
   rcases hvw with⟨hw,rfl,hx⟩|⟨hw,s1,hop,hxx⟩
   ·refine .inl ⟨by rw[hwc];exact hw,fun a' z1 z2 z3=>?_⟩
    have hk:=keep hx
    exact ih _ a' w Z φ hcnt hsz' hcl' VA (by rw[hk];exact hI) (by rw[hk];exact Xj z3) z1 (by rw[hk];exact z2▸hp)
   ·
        have Alc:∃s2,Ae C ao.op (AX (AU listed) (MQ es) 0 env) (Ej (AU listed) es 0 s)=some (.ok v,s2)∧Ej (AU (listed.setIfInBounds i true)) es 0 s=s2:=by
         rcases hxx with⟨hx,hf⟩|⟨hx,hf,hmi,hmw⟩
         ·rw[keep hx,hec]
          rcases Bool.eq_false_or_eq_true (flt ao)with hfl|hfl
          ·exact⟨_,Ac5 (Ada hfl).2 hop _,rfl⟩
          ·rcases Bool.eq_false_or_eq_true (Dp i W)with hwi|hwi
           ·have:=htr.wob i ao (ao.dst,v,x) hao hdi hv (by simpa using hwi) (by simpa using hw) _ (X0 (L:=AU listed) es 0 s)
            exact⟨_,by simpa using this,rfl⟩
           have him:i<m:=(hf.resolve_left (by rw[hwi];simp)).resolve_left (by rw[hfl];simp)
           have e:Ej (AU listed) es 0 s=Ej (fun q=>decide (q<i)) es 0 s:=Gw _ 0 s fun k d u s2 hk=>by
             rw[Nat.zero_add]
             obtain⟨hks,ak,hak,_,_,hac⟩:=entry k d u _ hk (.inr ⟨_,rfl⟩)
             obtain⟨q1,q2,q3⟩:=hac s2 rfl
             have hb:=hok.tail k ak hak hks q2 q1 q3 i ao (by omega) hao hfl hwi
             rw[later k _ (Array.getElem?_eq_getElem hks) hb]
             simp;omega
           have hpo:ao.op.EM=true:=by
             have:=hpure
             unfold DJ at this
             rw[List.all_eq_true]at this
             exact this ao (List.mem_of_getElem? (by rw[List.getElem?_take_of_lt him];exact hao))
           rw[e]
           have hs1:=(Gq hpo hop).1
           subst hs1
           exact⟨_,hop,rfl⟩
         ·have e:=stg hmi hf hmw
          rw[e,hec]
          refine⟨s1,hop,U3 es 0 i s s1 ao.dst v (by rw[hv,hx]) (by rw[Nat.zero_add,hset];simp) fun k d u s2 hk hlt=>?_⟩
          rw[Nat.zero_add,hset,if_neg (by omega)]
          obtain⟨hks,ak,hak,_,_,hac⟩:=entry k d u _ hk (.inr ⟨_,rfl⟩)
          obtain⟨q1,q2,q3⟩:=hac s2 rfl
          exact later k _ (Array.getElem?_eq_getElem hks) (hok.tail k ak hak hks q2 q1 q3 i ao hlt hao hf hmw)
        obtain⟨s2,hop2,hs2⟩:=Alc
        refine .inr ⟨by rw[hwc];exact hw,.ok v,s2,hop2,fun v' hv' a' y w' Z' φ' ha' hr hI' hE' KI=>?_,(fun v' hv'=>by cases hv')⟩
        cases hv'
        subst ha'
        obtain⟨z1,z2⟩:=size_put a o.dst y
        exact ih _ _ w' Z' φ' hcnt hsz' hcl' VA (by rw[hs2];exact hI') (by rw[hs2];exact Xj hE') (z1.trans hn) (by rw[hs2,z2];exact hp.later KI)
set_option maxHeartbeats 1000000 in
theorem J9 {C:Aq} (hC:Ar P C) (hm:P.follows .mixedOrders=true) {n:Nat} {an:List EP} (N:Nat):∀(c:Code) (ac:AY),BH P n an c=some ac→∀(env:Env) (s:Ag) (a:Act) (w:World) (Z:Bh) (φ:D8) (e:Az) (env':Env) (s':Ag) (Q:Exit→Act→World→Prop),
 EO C N ac env s=some (e,env',s')→Inv w0 B s Z φ w→Ak w Z φ s.ctr env a.tmps→a.tmps.size=n→Post w0 B w Z φ s.ctr n a.defers e env' s' Q→c.wp P Q a w:=by
 intro c
 induction c with
 |skip=>
  intro ac hc env s a w Z φ e env' s' Q hev hI hE hn hp
  simp only[BH,Option.some.injEq]at hc
  subst hc
  simp only[EO,Option.some.injEq,Prod.mk.injEq]at hev
  obtain⟨rfl,rfl,rfl⟩:=hev
  exact wp_skip (hp .normal a w Z φ rfl hn rfl hI hE (Later.refl _ _ _ _ _))
 |region id ops draw=>
  intro ac hc env s a w Z φ e env' s' Q hev hI hE hn hp
  simp only[BH]at hc
  split at hc
  ·rename_i os hos
   have key:∀(head:Option Nat),EO C N (.region head (DZ an id).JB os (DZ an id).live (DZ an id).trunc) env s=some (e,env',s')→
    ∃BD s1 Z1 e1 Di s2,CX C os BD s1=some (e1,Di,s2)∧Inv w0 B s1 Z1 φ w∧Ak w Z1 φ s1.ctr BD a.tmps∧Post w0 B w Z1 φ s1.ctr n a.defers e1 Di s2 Q:=by
        intro head hev
        simp only[EO]at hev
        split at hev
        ·rename_i BD s1 hfz
         obtain⟨Z1,k1,k2,k3⟩:=DK hfz hI hE
         split at hev
         ·rename_i Di s2 hops
          simp only[Option.some.injEq,Prod.mk.injEq]at hev
          obtain⟨rfl,rfl,rfl⟩:=hev
          refine⟨BD,s1,Z1,_,Di,s2,hops,k1,k2,fun e' a' w' Z' φ' h1 h2 h3 h4 h5 h6=>?_⟩
          obtain⟨t1,t2⟩:=h4.truncate (DZ an id).trunc
          refine hp e' a' w' Z' φ' (by cases h1;rfl) h2 h3 t1 (by rw[t2];exact h5.commit _) (by rw[t2];exact k3.trans h6)
         ·rename_i r hne
          exact⟨BD,s1,Z1,e,env',s',hev,k1,k2,hp.later k3⟩
        ·cases hev
   split at hc
   ·rename_i U6
    subst U6
    have hl0:∀i,AU (Array.replicate ops.size false) i=false:=fun i=>by simp[AU,Array.getD_eq_getD_getElem?,Array.getElem?_replicate];split<;>simp
    split at hc
    ·split at hc
     ·rename_i Gh
      simp only[Bool.and_eq_true,decide_eq_true_eq]at Gh
      simp only[Option.some.injEq]at hc
      subst hc
      generalize hmm:(DZ an id).head.getD os.length=m at Gh hev
      have hok:=P8 Gh.1.1
      simp only[EO]at hev
      split at hev
      ·rename_i BD s1 hfz
       obtain⟨Z1,k1,k2,k3⟩:=DK hfz hI hE
       split at hev
       ·rename_i Di s2 hhd
        have tail:∃e1 Wj s3,CX C (os.drop m) Di s2=some (e1,Wj,s3)∧Post w0 B w Z1 φ s1.ctr n a.defers e1 Wj s3 Q:=by
               split at hev
               ·rename_i Wj s3 hops
                simp only[Option.some.injEq,Prod.mk.injEq]at hev
                obtain⟨rfl,rfl,rfl⟩:=hev
                refine⟨_,Wj,s3,hops,fun e' a' w' Z' φ' h1 h2 h3 h4 h5 h6=>?_⟩
                obtain⟨t1,t2⟩:=h4.truncate (DZ an id).trunc
                exact hp e' a' w' Z' φ' (by cases h1;rfl) h2 h3 t1 (by rw[t2];exact h5.commit _) (by rw[t2];exact k3.trans h6)
               ·exact⟨e,env',s',hev,hp.later k3⟩
        obtain⟨e1,Wj,s3,hops,hp1⟩:=tail
        unfold KE at hhd
        split at hhd
        ·rename_i es hes
         split at hhd
         ·rename_i hap
          simp only[Option.some.injEq,Prod.mk.injEq]at hhd
          obtain⟨rfl,rfl⟩:=hhd
          refine wp_region_any hm ?_
          have hI1:Inv w0 B s1 Z1 φ {w with drawn:=w.drawn+1}∧Later B w Z1 φ s1.ctr {w with drawn:=w.drawn+1} Z1 φ s1.ctr:=
                     k1.grow (Z':=Z1) (Below.refl _ _).drew (fun _ _ h=>h) (fun _ _ h=>.inl h) (fun b i h=>k1.live b i h)
          have hres:=hI1.1.reserve (ranks (os.take m)) m
          have Y7:CW (AU (Array.replicate ops.size false)) es 0 ⟨s1.σ++List.replicate (ranks (os.take m)) .dead,s1.ctr+m⟩=⟨s1.σ++List.replicate (ranks (os.take m)) .dead,s1.ctr+m⟩:=by
                     have:∀(es:List Eff) (i:Nat) (s:Ag),CW (AU (Array.replicate ops.size false)) es i s=s:=by
                      intro es
                      induction es with
                      |nil=>intro i s;rfl
                      |cons e es ih=>
                       intro i s
                       simp only[CW]
                       rw[if_neg (by rw[hl0];simp)]
                       exact ih (i+1) s
                     exact this es 0 _
          refine Un hC hos hok Gh.2 hes hap (Nat.le_refl _) hops (Nat.le_refl _) (hp1.later hI1.2) ops.size _ a _ Z1 (fun g=>if g<s1.ctr then φ g else .pend) (by omega) (by simp) (fun j o _ hl=>by rw[hl0]at hl;cases hl) (fun i hl=>by rw[hl0]at hl;cases hl) (by rw[Y7];exact hres) ?_ hn rfl (fun i _ _=>if_neg (Nat.not_lt.2 (Nat.le_add_right _ _))) ?_
          ·rw[Y7,FH _ 0 BD fun k _=>hl0 _]
           exact fun t=>((k2.later hI1.2) t).fill (fun g hg _=>if_pos hg) (by simp)
          ·rw[Y7]
           exact⟨fun b i h=>.inl h,by simp,fun b i h=>h,fun _ _ _=>rfl,fun g hg=>if_pos hg⟩
         ·cases hhd
        ·cases hhd
       ·cases hev
      ·cases hev
     ·cases hc
    split at hc
    ·split at hc
     ·rename_i Gh
      simp only[Bool.and_eq_true]at Gh
      simp only[Option.some.injEq]at hc
      subst hc
      generalize hmm:(DZ an id).head.getD os.length=m at Gh hev
      have hok:=Y6 Gh.1
      simp only[EO]at hev
      split at hev
      ·rename_i BD s1 hfz
       obtain⟨Z1,k1,k2,k3⟩:=DK hfz hI hE
       have Adc:∀{x:Az} {e2:Env} {s2:Ag},FB C m (DZ an id).wob (DZ an id).pc os 0 BD s1 [] []=some (x,e2,s2)→Post w0 B w Z1 φ s1.ctr n a.defers x e2 s2 Q→(Code.region id ops true).wp P Q a w:=by
           intro x e2 s2 hops hp1
           obtain⟨es,dead,htr,hend,_⟩:=Lm (Ak8 Gh.1) (fun k o hk hlt=>by
               have:=Gh.2
               unfold DJ at this
               rw[List.all_eq_true]at this
               exact this o (List.mem_of_getElem? (i:=k) (by rw[List.getElem?_take_of_lt (by omega)];exact hk))) (fun q hq=>by simp at hq) hops
           refine wp_region_any hm ?_
           have hI1:Inv w0 B s1 Z1 φ {w with drawn:=w.drawn+1}∧Later B w Z1 φ s1.ctr {w with drawn:=w.drawn+1} Z1 φ s1.ctr:=
               k1.grow (Z':=Z1) (Below.refl _ _).drew (fun _ _ h=>h) (fun _ _ h=>.inl h) (fun b i h=>k1.live b i h)
           have Y7:Ej (AU (Array.replicate ops.size false)) es 0 s1=s1:=PV es 0 s1 fun k _ _ _ _=>hl0 _
           refine Abk hC hos hok Gh.2 htr hend ops.size _ a _ Z1 φ (by omega) (by simp) (fun j o _ hl=>by rw[hl0]at hl;cases hl) (fun i hl=>by rw[hl0]at hl;cases hl) (by rw[Y7];exact hI1.1) ?_ hn ?_
           ·rw[Y7,FH _ 0 BD fun k _=>hl0 _]
            exact k2.later hI1.2
           ·rw[Y7]
            exact hp1.later hI1.2
       split at hev
       ·rename_i Di s2 hops
        simp only[Option.some.injEq,Prod.mk.injEq]at hev
        obtain⟨rfl,rfl,rfl⟩:=hev
        refine Adc hops fun e' a' w' Z' φ' h1 h2 h3 h4 h5 h6=>?_
        obtain⟨t1,t2⟩:=h4.truncate (DZ an id).trunc
        exact hp e' a' w' Z' φ' (by cases h1;rfl) h2 h3 t1 (by rw[t2];exact h5.commit _) (by rw[t2];exact k3.trans h6)
       ·exact Adc hev (hp.later k3)
      ·cases hev
     ·cases hc
    split at hc
    ·rename_i Gh
     simp only[Bool.and_eq_true]at Gh
     simp only[Option.some.injEq]at hc
     subst hc
     obtain⟨BD,s1,Z1,e1,Di,s2,hops,k1,k2,k3⟩:=key _ hev
     have hlen:os.length=ops.size:=by have:=(CU hos).1;simpa using this
     have hok:=P8 Gh.1
     generalize hmm:(DZ an id).head.getD os.length=m at Gh hok
     have hok':Gs ops os (min m ops.size):=⟨hok.fwd,hok.tmp,fun j hj hmj i hi hif=>hok.tail j hj (by omega) i hi hif⟩
     have htk:os.take m=os.take (min m ops.size):=by
      rcases Nat.le_total m ops.size with h|h
      ·rw[Nat.min_eq_left h]
      ·rw[Nat.min_eq_right h,List.take_of_length_le (by omega),List.take_of_length_le (by omega)]
     have hpure:DJ (min m ops.size) os=true:=by
      have:=Gh.2
      unfold DJ at this ⊢
      rw[← htk];exact this
     have hsplit:os=os.take (min m ops.size)++os.drop (min m ops.size):=(List.take_append_drop _ _).symm
     rw[hsplit]at hops
     obtain⟨vs,htr,htl⟩:=I4 (by unfold DJ at hpure;exact hpure) hops
     refine wp_region_any hm ?_
     have hI1:Inv w0 B s1 Z1 φ {w with drawn:=w.drawn+1}∧Later B w Z1 φ s1.ctr {w with drawn:=w.drawn+1} Z1 φ s1.ctr:=
      k1.grow (Z':=Z1) (Below.refl _ _).drew (fun _ _ h=>h) (fun _ _ h=>.inl h) (fun b i h=>k1.live b i h)
     have AiP:cnt (AU (Array.replicate ops.size false)) ops.size+ops.size≥ops.size:=by omega
     refine YE hC hos hok' (Nat.min_le_right _ _) hpure htr (htl 0) ops.size _ a _ Z1 φ AiP (by simp) (fun j o _ hl=>by rw[hl0]at hl;cases hl) (fun i hl=>by rw[hl0]at hl;cases hl) hI1.1 ?_ hn (k3.later hI1.2)
     rw[FH vs 0 BD fun k _=>hl0 _]
     exact k2.later hI1.2
    ·cases hc
   ·rename_i U6
    simp only[Bool.not_eq_true]at U6
    subst U6
    simp only[Option.some.injEq]at hc
    subst hc
    obtain⟨BD,s1,Z1,e1,Di,s2,hops,k1,k2,k3⟩:=key _ hev
    refine wp_region ?_
    have:=PD hC ops.toList 0 os BD s1 a w Z1 φ e1 Di s2 (fun k=>by simp) hos hops k1 k2 hn k3
    rw[List.range_eq_range']
    simpa using this
  ·split at hc
   case h_2=>simp only[Option.some.injEq]at hc;subst hc;exact(GX _ _ _ _ _ hev).elim
   case h_1 m hhead=>
   split at hc
   case h_2=>simp only[Option.some.injEq]at hc;subst hc;exact(GX _ _ _ _ _ hev).elim
   case h_1 os hent=>
   split at hc
   case isFalse=>simp only[Option.some.injEq]at hc;subst hc;exact(GX _ _ _ _ _ hev).elim
   case isTrue Gh=>
   simp only[Bool.and_eq_true]at Gh
   obtain⟨U6,Gh⟩:=Gh
   subst U6
   simp only[Option.some.injEq]at hc
   subst hc
   have key:∃BD s1 Z1 e1 Di s2,CX C os BD s1=some (e1,Di,s2)∧Inv w0 B s1 Z1 φ w∧Ak w Z1 φ s1.ctr BD a.tmps∧Post w0 B w Z1 φ s1.ctr n a.defers e1 Di s2 Q:=by
        simp only[EO]at hev
        split at hev
        ·rename_i BD s1 hfz
         obtain⟨Z1,k1,k2,k3⟩:=DK hfz hI hE
         split at hev
         ·rename_i Di s2 hops
          simp only[Option.some.injEq,Prod.mk.injEq]at hev
          obtain⟨rfl,rfl,rfl⟩:=hev
          refine⟨BD,s1,Z1,_,Di,s2,hops,k1,k2,fun e' a' w' Z' φ' h1 h2 h3 h4 h5 h6=>?_⟩
          obtain⟨t1,t2⟩:=h4.truncate (DZ an id).trunc
          refine hp e' a' w' Z' φ' (by cases h1;rfl) h2 h3 t1 (by rw[t2];exact h5.commit _) (by rw[t2];exact k3.trans h6)
         ·rename_i r hne
          exact⟨BD,s1,Z1,e,env',s',hev,k1,k2,hp.later k3⟩
        ·cases hev
   obtain⟨BD,s1,Z1,e1,Di,s2,hops,k1,k2,k3⟩:=key
   unfold ZT at hent
   split at hent
   case h_2=>cases hent
   case h_1 ty d1 d2 tm tk tx hat=>
   split at hent
   case h_2=>cases hent
   case h_1 kt el hu=>
   split at hent
   case h_2=>cases hent
   case h_1 l zz hd tl hl hze hhd htl=>
   obtain⟨nz,ze⟩:=zz
   split at hent
   case isFalse=>cases hent
   case isTrue hdn=>
   simp only[Option.some.injEq]at hent
   unfold Afu at Gh
   rw[hat]at Gh
   simp only at Gh
   split at Gh
   case h_2=>cases Gh
   case h_1 f ty hcp=>
   simp only[Bool.and_eq_true]at Gh
   obtain⟨Gh,hpure⟩:=Gh
   have hok:=Vx Gh
   obtain⟨oc,c1,c2,c3,c4,c5,c6,hfm,c8⟩:=Oe hcp
   obtain⟨o1,o2,o3,t',g1,g2,g3,_⟩:=JQ hat
   have hsize:m+2<ops.size:=(Array.getElem?_eq_some_iff.1 g3).1
   obtain⟨hhl,hhg⟩:=CU hhd
   have AgS:hd.length=m:=by rw[hhl,List.length_take];simp;omega
   have hal:os.length=ops.size:=by
        rw[← hent,List.length_append,List.length_append,(CU htl).1,AgS]
        simp[Iu]
        omega
   have hl0:∀i,AU (Array.replicate ops.size false) i=false:=fun i=>by simp[AU,Array.getD_eq_getD_getElem?,Array.getElem?_replicate];split<;>simp
   have hsplit:os=os.take m++os.drop m:=(List.take_append_drop _ _).symm
   rw[hsplit]at hops
   obtain⟨vs,htr,AaX⟩:=I4 (by unfold DJ at hpure;exact hpure) hops
   refine wp_region_any hm ?_
   have hI1:Inv w0 B s1 Z1 φ {w with drawn:=w.drawn+1}∧Later B w Z1 φ s1.ctr {w with drawn:=w.drawn+1} Z1 φ s1.ctr:=
        k1.grow (Z':=Z1) (Below.refl _ _).drew (fun _ _ h=>h) (fun _ _ h=>.inl h) (fun b i h=>k1.live b i h)
   obtain⟨aoc,k1',k2',k3',k4',k5'⟩:=hhg f oc (by rw[List.getElem?_take_of_lt hfm,Array.getElem?_toList];exact c1)
   have Ald:os[f]?=some aoc:=by rw[← hent,List.getElem?_append_left (by omega)];exact k1'
   have Ale:aoc=⟨some tx,.Yg (.tmp ty),none⟩:=by
        have e1:aoc.op=.Yg (.tmp ty):=by
         unfold Jd at k2'
         rw[c2]at k2'
         simpa[Ai]using k2'.symm
        have e2:aoc.guard=none:=by
         rw[c3]at k3'
         simpa[Ec]using k3'.symm
        have e3:aoc.dst=some tx:=k4'.trans c4
        cases aoc
        simp only at e1 e2 e3
        rw[e1,e2,e3]
   refine Qa (an:=(DZ an id).ops) (m:=m) (f:=f) hC hal (fun k o hk ho=>?_) hok (by omega) hpure htr (fun fuel listed a w Z φ BD v ao _ hao hf hsz hcl hL hI hE hn hp hv hfr=>?_) (fun fuel listed a w Z φ h1 h2 h3 h4 h5 h6 h7=>Xl hC hat hu hl hze hdn.1 hdn.2 hent.symm AgS htl hok hfm (AaX 0) fuel listed a w Z φ h1 h2 h3 h4 h5 h6 h7) ops.size _ a _ Z1 φ (by omega) (by simp) (fun j o _ hl=>by rw[hl0]at hl;cases hl) (fun i hl=>by rw[hl0]at hl;cases hl) hI1.1 ?_ hn (k3.later hI1.2)
   ·obtain⟨ao,a1,a2,a3,a4,a5⟩:=hhg k o (by rw[List.getElem?_take_of_lt hk];exact ho)
    refine⟨ao,?_,a2,a3,a4,a5⟩
    rw[← hent,List.getElem?_append_left (by omega)]
    exact a1
   ·rw[Ald]at hao
    cases hao
    subst Ale
    refine Aeh hC hat hu hl hze hdn.1 hdn.2 hcp hent.symm AgS htl hok (AaX 0) (k5' _ c4) fuel listed a w Z φ hf hsz hcl hL hI hE hn hp fun x=>?_
    rw[← hfr x,get_put]
    rcases hv with⟨hw,_⟩|⟨_,s3,hop⟩
    ·cases hw
    ·simp only[Ae,Option.some.injEq,Prod.mk.injEq,AL.ok.injEq]at hop
     rw[← hop.1]
     by_cases hx:x=tx
     ·subst hx;rw[if_pos rfl,if_pos rfl];rfl
     ·rw[if_neg hx,if_neg (fun e=>hx (Option.some.inj e).symm)]
   ·rw[FH vs 0 BD fun k _=>hl0 _]
    exact k2.later hI1.2
 |seq x y ihx ihy=>
  intro ac hc env s a w Z φ e env' s' Q hev hI hE hn hp
  simp only[BH]at hc
  split at hc
  ·rename_i ax ay hx hy
   simp only[Option.some.injEq]at hc
   subst hc
   simp only[EO]at hev
   refine wp_seq ?_
   split at hev
   ·rename_i BD s1 h1
    refine ihx ax hx env s a w Z φ _ BD s1 _ h1 hI hE hn fun e' a' w' Z' φ' q1 q2 q3 q4 q5 q6=>?_
    cases q1
    exact ihy ay hy BD s1 a' w' Z' φ' e env' s' Q hev q4 q5 q2 (q3▸hp.later q6)
   ·rename_i r hne
    refine ihx ax hx env s a w Z φ e env' s' _ hev hI hE hn fun e' a' w' Z' φ' q1 q2 q3 q4 q5 q6=>?_
    have:=hp e' a' w' Z' φ' q1 q2 q3 q4 q5 q6
    cases e'<;>first|exact this|skip
    cases e<;>first|(cases q1;done)|skip
    ·exact absurd hev (hne env' s')
    ·obtain⟨x,hx,_⟩:=q1;cases hx
  ·cases hc
 |cond c x y ihx ihy=>
  intro ac hc env s a w Z φ e env' s' Q hev hI hE hn hp
  simp only[BH]at hc
  split at hc
  ·rename_i ao ax ay ho hx hy
   simp only[Option.some.injEq]at hc
   subst hc
   have hr:=Aa hE ho
   simp only[EO]at hev
   split at hev
   ·rename_i hb
    rw[hb]at hr
    generalize hq:a.eval c=q at hr
    cases hr
    exact wp_cond_true hq (ihx ax hx env s a w Z φ e env' s' Q hev hI hE hn hp)
   ·rename_i hb
    rw[hb]at hr
    generalize hq:a.eval c=q at hr
    cases hr
    exact wp_cond_false hq (ihy ay hy env s a w Z φ e env' s' Q hev hI hE hn hp)
   ·cases hev
  ·cases hc
 |block id x ihx=>
  intro ac hc env s a w Z φ e env' s' Q hev hI hE hn hp
  simp only[BH,Option.map_eq_some_iff]at hc
  obtain⟨ax,hx,rfl⟩:=hc
  simp only[EO]at hev
  refine wp_block ?_
  split at hev
  ·rename_i j BD s1 h1
   refine ihx ax hx env s a w Z φ _ BD s1 _ h1 hI hE hn fun e' a' w' Z' φ' q1 q2 q3 q4 q5 q6=>?_
   cases q1
   split at hev
   ·rename_i hj
    simp only[Option.some.injEq,Prod.mk.injEq]at hev
    obtain⟨rfl,rfl,rfl⟩:=hev
    simp only[Exit.inBlock,hj,if_true]
    exact hp .normal a' w' Z' φ' rfl q2 q3 q4 q5 q6
   ·rename_i hj
    simp only[Option.some.injEq,Prod.mk.injEq]at hev
    obtain⟨rfl,rfl,rfl⟩:=hev
    simp only[Exit.inBlock,hj,if_false]
    exact hp (.exit j) a' w' Z' φ' rfl q2 q3 q4 q5 q6
  ·rename_i r hne
   refine ihx ax hx env s a w Z φ e env' s' _ hev hI hE hn fun e' a' w' Z' φ' q1 q2 q3 q4 q5 q6=>?_
   have:=hp e' a' w' Z' φ' q1 q2 q3 q4 q5 q6
   cases e'<;>first|exact this|skip
   rename_i j
   cases e<;>first|(cases q1;done)|skip
   ·exact absurd hev (hne _ env' s')
   ·obtain⟨x,hx,_⟩:=q1;cases hx
 |loop x ihx=>
  intro ac hc env s a w Z φ e env' s' Q hev hI hE hn hp
  simp only[BH,Option.map_eq_some_iff]at hc
  obtain⟨ax,hx,rfl⟩:=hc
  simp only[EO]at hev
  have rounds:∀(M:Nat) (env:Env) (s:Ag) (a:Act) (w:World) (Z:Bh) (φ:D8),iter (fun env s=>EO C N ax (AI.commit env (DZ an (IZ x)).hdr) s) M env s=some (e,env',s')→Inv w0 B s Z φ w→Ak w Z φ s.ctr env a.tmps→a.tmps.size=n→Post w0 B w Z φ s.ctr n a.defers e env' s' Q→Code.rounds P x Q M a w:=by
   intro M
   induction M with
   |zero=>intro env s a w Z φ h;simp[iter]at h
   |succ M ihM=>
    intro env s a w Z φ h hI hE hn hp
    rw[rounds_succ]
    simp only[iter]at h
    split at h
    ·rename_i BD s1 h1
     refine ihx ax hx _ s a w Z φ _ BD s1 _ h1 hI (hE.commit _) hn fun e' a' w' Z' φ' q1 q2 q3 q4 q5 q6=>?_
     cases q1
     exact ihM BD s1 a' w' Z' φ' h q4 q5 q2 (q3▸hp.later q6)
    ·rename_i r hne
     refine ihx ax hx _ s a w Z φ e env' s' _ h hI (hE.commit _) hn fun e' a' w' Z' φ' q1 q2 q3 q4 q5 q6=>?_
     have:=hp e' a' w' Z' φ' q1 q2 q3 q4 q5 q6
     cases e'<;>first|exact this|skip
     cases e<;>first|(cases q1;done)|skip
     ·exact absurd h (hne env' s')
     ·obtain⟨x,hx,_⟩:=q1;cases hx
  exact wp_loop_rounds N (rounds N env s a w Z φ hev hI hE hn hp)
 |exit id=>
  intro ac hc env s a w Z φ e env' s' Q hev hI hE hn hp
  simp only[BH,Option.some.injEq]at hc
  subst hc
  simp only[EO,Option.some.injEq,Prod.mk.injEq]at hev
  obtain⟨rfl,rfl,rfl⟩:=hev
  exact wp_exit (hp (.exit id) a w Z φ rfl hn rfl hI hE (Later.refl _ _ _ _ _))
 |ret=>
  intro ac hc env s a w Z φ e env' s' Q hev hI hE hn hp
  simp only[BH,Option.some.injEq]at hc
  subst hc
  simp only[EO,Option.some.injEq,Prod.mk.injEq]at hev
  obtain⟨rfl,rfl,rfl⟩:=hev
  exact wp_ret (hp .ret a w Z φ rfl hn rfl hI hE (Later.refl _ _ _ _ _))
 |rangeFunc f ps as b _ _=>intro ac hc env s a w Z φ e env' s' Q hev hI hE hn hp;simp only[BH,Option.some.injEq]at hc;subst hc;exact(GX _ _ _ _ _ hev).elim
 |scope b _=>intro ac hc env s a w Z φ e env' s' Q hev hI hE hn hp;simp only[BH,Option.some.injEq]at hc;subst hc;exact(GX _ _ _ _ _ hev).elim
 |label l=>intro ac hc env s a w Z φ e env' s' Q hev hI hE hn hp;simp only[BH,Option.some.injEq]at hc;subst hc;exact(GX _ _ _ _ _ hev).elim
 |goto l=>intro ac hc env s a w Z φ e env' s' Q hev hI hE hn hp;simp only[BH,Option.some.injEq]at hc;subst hc;exact(GX _ _ _ _ _ hev).elim
 |refuse why=>intro ac hc env s a w Z φ e env' s' Q hev hI hE hn hp;simp only[BH,Option.some.injEq]at hc;subst hc;exact(GX _ _ _ _ _ hev).elim
def OU (tmps:Array Value):ResultVar→Sem Value
 | .tmp t=>pure (tmps.getD t undef)
 | .cell a t=>do loadVar t (← asAddr (tmps.getD a undef))
theorem results_read (fn:Func) (tmps:Array Value):results fn tmps=(do
 let vs ←fn.results.mapM (OU tmps)
 pure (if h:vs.size=1 then vs[0]else .tuple vs)):=rfl
theorem NG (hI:Inv w0 B s Z φ w) {n:Nat} {env:Env} {tmps:Array Value} (hE:Ak w Z φ s.ctr env tmps):∀{rs:List ResultVar} {ars:List Vh} {vs:List AV},F7 P n rs=some ars→Fh env s ars=some vs→
 ∃xs:List Value,(rs.mapM (OU tmps)).run P w=.ok xs w∧xs.length=vs.length∧∀(i:Nat) (v:AV),vs[i]?=some v→∃x,xs[i]?=some x∧Rep w Z φ s.ctr v x
 |[],ars,vs,hc,hev=>by
  simp only[F7,Option.some.injEq]at hc
  subst hc
  simp only[Fh,Option.some.injEq]at hev
  subst hev
  exact⟨[],by simp,rfl,fun i v hi=>by simp at hi⟩
 |r::rs,ars,vs,hc,hev=>by
  have fin:∀{ar:Vh} {Ade:List Vh} {x:Value} {v:AV},ars=ar::Ade→F7 P n rs=some Ade→Pq env s ar=some v→(OU tmps r).run P w=.ok x w→Rep w Z φ s.ctr v x→
        ∃xs:List Value,((r::rs).mapM (OU tmps)).run P w=.ok xs w∧xs.length=vs.length∧∀(i:Nat) (v:AV),vs[i]?=some v→∃x,xs[i]?=some x∧Rep w Z φ s.ctr v x:=by
   intro ar Ade x v Alf hc' h1 hrun hrep
   subst Alf
   simp only[Fh,h1]at hev
   split at hev
   ·rename_i v' vs' hv' hvs'
    simp only[Option.some.injEq]at hv' hev
    subst hv';subst hev
    obtain⟨xs,k1,k2,k3⟩:=NG hI hE hc' hvs'
    refine⟨x::xs,?_,by simp[k2],fun i u hi=>?_⟩
    ·simp only[List.mapM_cons,Sem.run_bind,hrun,Result.andThen_ok,k1,Sem.run_pure]
    ·cases i with
     |zero=>
      simp only[List.getElem?_cons_zero,Option.some.injEq]at hi
      subst hi
      exact⟨x,rfl,hrep⟩
     |succ i=>exact k3 i u (by simpa using hi)
   ·cases hev
  cases r with
  |tmp t=>
   simp only[F7]at hc
   split at hc
   ·simp only[Option.map_eq_some_iff]at hc
    obtain⟨Ade,hc',rfl⟩:=hc
    exact fin rfl hc' rfl rfl (hE t)
   ·cases hc
  |cell a t=>
   simp only[F7]at hc
   split at hc
   ·rename_i sz Ade hsz hc'
    simp only[Option.some.injEq]at hc
    subst hc
    cases h1:Pq env s (.cell a sz)with
    |none=>simp[Fh,h1]at hev
    |some v=>
     have h1':=h1
     simp only[Pq]at h1
     split at h1
     ·rename_i o g i off hv
      split at h1
      ·rename_i g' es nn cl elems ho
       split at h1
       ·rename_i hg;subst hg
        split at h1
        ·rename_i y hy
         rw[Aj]at ho hy
         have hr:=hE a
         rw[hv]at hr
         obtain⟨b,hb,hat⟩:=Ace hI hr ho hy
         obtain⟨x,q1,q2⟩:=G6 (P:=P) hsz hat h1
         exact fin rfl hc' h1' (by simp only[OU,hb,asAddr,Sem.run_bind,Sem.run_pure,Result.andThen_ok,q1]) q2
        ·cases h1
       ·cases h1
      ·cases h1
     ·cases h1
   ·cases hc
theorem NH:∀(args:List AV) (i t:Nat),(params args i).get t=if i≤t∧t<i+args.length then(args[t-i]?).getD .junk else .junk
 |[],i,t=>by simp[params,Env.get]
 |v::vs,i,t=>by
  simp only[params,Env.get]
  by_cases h:i=t
  ·subst h;simp
  ·have:Nat.beq i t=false:=by
        cases hb:Nat.beq i t
        ·rfl
        ·exact absurd (Nat.eq_of_beq_eq_true hb) h
   rw[this,cond_false,NH vs (i+1) t]
   simp only[List.length_cons]
   by_cases h2:i+1≤t∧t<i+1+vs.length
   ·rw[if_pos h2,if_pos (by omega),show t-i=(t-(i+1))+1 by omega,List.getElem?_cons_succ]
   ·rw[if_neg h2,if_neg (by omega)]
theorem Y8 {C:Aq} (hC:Ar P C) (hm:P.follows .mixedOrders=true) {an:List EP} {f:Nat} {fn:Func} {af:FC} (hf:P.funcs[f]?=some fn) (hcomp:MJ P an fn=some af) (N:Nat) {args:List AV} {out:AL} (hlen:args.length=af.np) (hev:evF C N af args s=some (out,s'))
 (hI:Inv w0 B s Z φ w) {vs:Array Value} (hargs:Dx w Z φ s.ctr args vs):
 Calls P f vs w fun e w'=>∃Z' φ',Inv w0 B s' Z' φ' w'∧Later B w Z φ s.ctr w' Z' φ' s'.ctr∧MW w' Z' φ' s'.ctr out e:=by
 unfold MJ at hcomp
 split at hcomp
 ·rename_i b hb
  split at hcomp
  ·rename_i c rs hcc hrs
   split at hcomp
   ·rename_i hnp
    simp only[Option.some.injEq]at hcomp
    subst hcomp
    have hvs:vs.size=fn.params.size+fn.nfree:=by rw[← hargs.1];exact hlen
    have hsz:(vs++Array.replicate (fn.ntmps-vs.size) undef).size=fn.ntmps:=by simp;omega
    have hE:Ak w Z φ s.ctr (params args 0) (vs++Array.replicate (fn.ntmps-vs.size) undef):=by
     intro t
     rw[NH]
     split
     ·rename_i ht
      have hlt:t<args.length:=by omega
      obtain⟨v,h1,h2⟩:=hargs.2 t _ (List.getElem?_eq_getElem hlt)
      have hvt:t<vs.size:=by rw[← hargs.1];exact hlt
      have:(vs++Array.replicate (fn.ntmps-vs.size) undef).getD t undef=v:=by
       rw[Array.getD_eq_getD_getElem?,Array.getElem?_append_left hvt,h1];rfl
      rw[this]
      simpa[List.getElem?_eq_getElem hlt]using h2
     ·exact .junk _
    have fin:∀(e:Az),(e=.normal∨e=.ret)→∀env' s1,EO C N c (params args 0) s=some (e,env',s1)→((Fh env' s1 rs).map fun vs=>(AL.ok (EH vs),s1))=some (out,s')→
     Calls P f vs w fun e w'=>∃Z' φ',Inv w0 B s' Z' φ' w'∧Later B w Z φ s.ctr w' Z' φ' s'.ctr∧MW w' Z' φ' s'.ctr out e:=by
     intro e he env' s1 Y9 hres
     simp only[Option.map_eq_some_iff,Prod.mk.injEq]at hres
     obtain⟨rvs,hr,rfl,rfl⟩:=hres
     refine calls_of_wp hf hb (J9 hC hm N b c hcc (params args 0) s _ w Z φ e env' s1 _ Y9 hI hE hsz fun e' a' w' Z' φ' q1 q2 q3 q4 q5 q6=>?_)
     obtain⟨xs,k1,k2,k3⟩:=NG (P:=P) q4 q5 hrs hr
     have hres:∃v,(results fn a'.tmps).run P w'=.ok v w'∧Rep w' Z' φ' s1.ctr (EH rvs) v:=by
      have hrun:(results fn a'.tmps).run P w'=.ok (if h:xs.toArray.size=1 then xs.toArray[0]else .tuple xs.toArray) w':=by
       rw[results_read,Array.mapM_eq_mapM_toList]
       simp only[Sem.run_bind,Sem.run_map,k1,Result.andThen_ok,Sem.run_pure]
      refine⟨_,hrun,?_⟩
      by_cases h1:xs.length=1
      ·obtain⟨x,rfl⟩:∃x,xs=[x]:=List.length_eq_one_iff.1 h1
       obtain⟨v,rfl⟩:∃v,rvs=[v]:=List.length_eq_one_iff.1 (by omega)
       obtain⟨x',g1,g2⟩:=k3 0 v rfl
       simp only[List.getElem?_cons_zero,Option.some.injEq]at g1
       subst g1
       simpa[EH]using g2
      ·have ht:EH rvs=.Dy rvs:=by
        unfold EH
        split
        ·rename_i v;simp at k2;omega
        ·rfl
       rw[ht,dif_neg (by simpa using h1)]
       refine .Dy _ _ (by simp[k2]) fun i c hi=>?_
       obtain⟨x',g1,g2⟩:=k3 i c hi
       have:xs.toArray.getD i undef=x':=F8 (by simpa using g1)
       rw[this];exact g2
     obtain⟨v,hv1,hv2⟩:=hres
     have hfin:a'.defers=[]∧∃v,(results fn a'.tmps).run P w'=.ok v w'∧(∃ WE Zr,Inv w0 B s1 WE Zr w'∧Later B w Z φ s.ctr w' WE Zr s1.ctr∧MW w' WE Zr s1.ctr (.ok (EH rvs)) (.returned v)):=
      ⟨q3,v,hv1,Z',φ',q4,q6,v,rfl,hv2⟩
     rcases he with rfl|rfl
     ·cases q1;exact hfin
     ·cases q1;exact hfin
    unfold evF at hev
    split at hev
    ·rename_i env' s1 Y9
     exact fin .normal (.inl rfl) env' s1 Y9 hev
    ·rename_i env' s1 Y9
     exact fin .ret (.inr rfl) env' s1 Y9 hev
    ·rename_i v env' s1 Y9
     simp only[Option.some.injEq,Prod.mk.injEq]at hev
     obtain⟨rfl,rfl⟩:=hev
     refine calls_of_wp hf hb (J9 hC hm N b c hcc (params args 0) s _ w Z φ _ env' s1 _ Y9 hI hE hsz fun e' a' w' Z' φ' q1 q2 q3 q4 q5 q6=>?_)
     obtain⟨x,rfl,hx⟩:=q1
     exact⟨q3,Z',φ',q4,q6,x,rfl,hx⟩
    ·cases hev
   ·cases hcomp
  ·cases hcomp
 ·cases hcomp
def TA (P:Program) (f:Nat) (d:DFn):Prop:=∀C N,Ar P C→Ar P fun f' args s=>if f'=f∧args.length=d.np then evD C N d args s else none
def NY (P:Program) (AP:Nat→Option Hf):Prop:=
 ∀f a,AP f=some a→match a with
  | .code af => ∃ fn an, P.funcs[f]? = some fn ∧ (fn.name == "runtime.NumGoroutine") = false ∧ MJ P an fn = some af
  | .ext sp=>Ar P fun f' args s=>if f'=f then sp args s else none
  | .dfr d=>TA P f d
theorem Ji {AP:Nat→Option Hf} (hm:P.follows .mixedOrders=true) (hAP:NY P AP):∀n,Ar P (run AP n)
 |0=>fun f args s out s' h=>by simp[run]at h
 |n+1=>fun f args s out s' h=>by
  simp only[run]at h
  split at h
  ·rename_i fn hf
   obtain⟨gf,an,h1,h2,h3⟩:=hAP f _ hf
   split at h
   ·rename_i hl
    refine fun w0 B Z φ w vs hI hargs=>.inl ⟨⟨gf,h1,?_,h2⟩,Y8 (Ji hm hAP n) hm h1 h3 n hl h hI hargs⟩
    unfold MJ at h3
    cases hb:gf.body with
    |none=>simp[hb]at h3
    |some b=>rfl
   ·cases h
  ·rename_i sp hf
   have:=hAP f _ hf
   exact this f args s out s' (by simpa using h)
  ·rename_i d hf
   split at h
   ·rename_i hl
    exact(hAP f _ hf:TA P f d) (run AP n) n (Ji hm hAP n) f args s out s' (by show(if f=f∧args.length=d.np then _ else none)=_;rw[if_pos ⟨rfl,hl⟩];exact h)
   ·cases h
  ·cases h
end AI
end Go.Proofs.YtiimoiecghmebaaDoor
namespace Go.Proofs.YtiimoiecghmebaaDoor
namespace AI
open Go.RowKit
def Ad:List (Nat×Hf)→Nat→Option Hf
 |[],_=>none
 |(k,a)::r,f=>bif Nat.beq k f then some a else Ad r f
def Vs (P:Program) (f:Nat):Hf→Prop
 | .code af => ∃ fn an, P.funcs[f]? = some fn ∧ (fn.name == "runtime.NumGoroutine") = false ∧ MJ P an fn = some af
 | .ext sp=>Ar P fun f' args s=>if f'=f then sp args s else none
 | .dfr d=>TA P f d
def AfJ (P:Program):List (Nat×Hf)→Prop
 |[]=>True
 |(f,a)::r=>Vs P f a∧AfJ P r
theorem en {P : Program} {i : Nat} {f : Func} {a : FC} (h : cok P f a = some a) (h1 : P.funcs[i]? = some f := by kernel_rfl) (h2 : (f.name == "runtime.NumGoroutine") = false := by kernel_rfl) : Vs P i (.code a) := ⟨f, _, h1, h2, h⟩
theorem Rq {P:Program}:∀{tab:List (Nat×Hf)},AfJ P tab→NY P (Ad tab)
 |[],_,f,a,h=>by simp[Ad]at h
 |(k,a0)::r,hall,f,a,h=>by
  simp only[Ad]at h
  cases hb:Nat.beq k f
  ·rw[hb,cond_false]at h
   exact Rq hall.2 f a h
  ·rw[hb,cond_true]at h
   have:=Nat.eq_of_beq_eq_true hb
   subst this
   cases h
   cases a0 with
   |code af=>exact hall.1
   |ext sp=>exact hall.1
   |dfr d=>exact hall.1
def Eh (C C':Aq):Prop:=∀f args s r,C f args s=some r→C' f args s=some r
theorem Jf {C C':Aq} (h:Eh C C') {f:Nat} {args:List AV} {v:AV} (hv:Ce C f args=some v):Ce C' f args=some v:=by
 unfold Ce at hv ⊢
 split at hv
 ·rename_i r s' hc
  rw[h _ _ _ _ hc]
  exact hv
 ·cases hv
theorem MR {C C':Aq} (h:Eh C C') {m:Mode} {f:Nat} {args:List AV} {s:Ag} {r:AL×Ag} (he:AZ C m f args s=some r):AZ C' m f args s=some r:=by
 have hp:∀{f args v},Ce C f args=some v→Ce C' f args=some v:=by
  intro f args v hv
  unfold Ce at hv ⊢
  split at hv
  ·rename_i r s' hc
   rw[h _ _ _ _ hc]
   exact hv
  ·cases hv
 cases m
 ·simp only[AZ]at he ⊢
  split at he
  ·rename_i hcl
   rw[if_pos hcl]
   rw[Option.map_eq_some_iff]at he ⊢
   obtain⟨v,h1,h2⟩:=he
   exact⟨v,hp h1,h2⟩
  ·cases he
 ·simp only[AZ]at he ⊢
  split at he
  ·split at he
   ·rename_i v hv
    rw[hp hv]
    exact he
   ·cases he
  ·cases he
 ·simp only[AZ]at he ⊢
  split at he
  ·rename_i v s' hc
   rw[h _ _ _ _ hc]
   exact he
  ·rename_i v s' hc
   rw[h _ _ _ _ hc]
   exact he
  ·cases he
 ·simp only[AZ]at he ⊢
  split at he
  ·rename_i hcl
   rw[if_pos hcl]
   split at he
   ·rename_i o g off len s' hc
    rw[h _ _ _ _ hc]
    exact he
   ·rename_i s' hc
    rw[h _ _ _ _ hc]
    exact he
   ·cases he
  ·cases he
 ·simp only[AZ]at he ⊢
  exact h _ _ _ _ he
theorem BJ {C C':Aq} (h:Eh C C') {o:BN} {env:Env} {s:Ag} {r:AL×Ag} (he:Ae C o env s=some r):Ae C' o env s=some r:=by
 cases o
 case call m f args=>exact MR h he
 case Gz m x args=>
  simp only[Ae]at he ⊢
  split at he
  ·exact MR h he
  ·cases he
 all_goals exact he
theorem Ew {C C':Aq} (h:Eh C C'):∀{os:List Ap} {env:Env} {s:Ag} {r:Az×Env×Ag},CX C os env s=some r→CX C' os env s=some r
 |[],_,_,_,he=>he
 |o::os,env,s,r,he=>by
  simp only[CX]at he ⊢
  split at he
  ·cases he
  ·exact Ew h he
  ·split at he
   ·rename_i v s' hop
    rw[BJ h hop]
    exact Ew h he
   ·rename_i v s' hop
    rw[BJ h hop]
    exact he
   ·cases he
theorem Sm {C C':Aq} (h:Eh C C') {o:BN} {r g:Nat} {env:Env} {s:Ag} {x:AV×Option (Nat×Obj)×Nat} (he:Il C o r g env s=some x):Il C' o r g env s=some x:=by
 unfold Il at he ⊢
 cases hev:Ae C o env s with
 |none=>rw[hev]at he;cases hc:o.cls with
  |none=>rw[hc]at he;cases he
  |some c=>rw[hc]at he;cases c<;>cases he
 |some out=>
  rw[BJ h hev]
  rw[hev]at he
  exact he
theorem Iz {C C':Aq} (h:Eh C C'):∀{os:List Ap} {r g:Nat} {env:Env} {s:Ag} {es:List Eff},G8 C os r g env s=some es→G8 C' os r g env s=some es
 |[],_,_,_,_,_,he=>he
 |o::os,r,g,env,s,es,he=>by
  simp only[G8]at he ⊢
  split at he
  ·cases he
  ·split at he
   ·rename_i es' ht
    rw[Iz h ht]
    exact he
   ·cases he
  ·split at he
   ·rename_i v u b hop
    rw[Sm h hop]
    simp only
    split at he
    ·rename_i es' ht
     rw[Iz h ht]
     exact he
    ·cases he
   ·cases he
theorem PO {f f':Env→Ag→Option (Az×Env×Ag)} (h:∀env s r,f env s=some r→f' env s=some r):∀{n n':Nat} {env:Env} {s:Ag} {r:Az×Env×Ag},n≤n'→iter f n env s=some r→iter f' n' env s=some r
 |0,_,_,_,_,_,he=>by simp[iter]at he
 |n+1,0,_,_,_,hn,_=>by omega
 |n+1,n'+1,env,s,r,hn,he=>by
  simp only[iter]at he ⊢
  split at he
  ·rename_i env' s' hf
   rw[h _ _ _ hf]
   exact PO h (by omega) he
  ·rename_i r' hne
   have:=h _ _ _ he
   rw[this]
   split
   ·rename_i env' s' heq
    rw[heq]at this
    exact absurd (he.trans heq) (hne env' s')
   ·rfl
theorem I7 {C C':Aq} (h:Eh C C') {op:BN} {env:Env} {v:AV}:∀{past:List Ag},JF C op env v past=true→JF C' op env v past=true
 |[],_=>rfl
 |S::r,hk=>by
  simp only[JF]at hk ⊢
  split at hk
  ·rename_i u s' hop
   simp only[Bool.and_eq_true]at hk
   rw[BJ h hop]
   simp only[hk.1,I7 h hk.2,Bool.and_self]
  ·cases hk
theorem I8 {C C':Aq} (h:Eh C C') {S:Ag}:∀{pend:List (BN×Env×AV)},JG C S pend=true→JG C' S pend=true
 |[],_=>rfl
 |(op,env,v)::r,hk=>by
  simp only[JG]at hk ⊢
  split at hk
  ·rename_i u s' hop
   simp only[Bool.and_eq_true]at hk
   rw[BJ h hop]
   simp only[hk.1,I8 h hk.2,Bool.and_self]
  ·cases hk
theorem EF {C C':Aq} (h:Eh C C') {E:List Nat}:∀{os:List Ap} {i:Nat} {env:Env} {s:Ag},DW C E os i env s=true→DW C' E os i env s=true
 |[],_,_,_,_=>rfl
 |o::os,i,env,s,he=>by
  simp only[DW]at he ⊢
  split at he
  ·rename_i hm
   rw[if_pos hm]
   split at he
   ·split at he
    ·rename_i v s1 hop
     rw[BJ h hop]
     simp only[Bool.and_eq_true]at he ⊢
     exact⟨he.1,EF h he.2⟩
    ·cases he
   ·exact EF h he
   ·cases he
  ·rename_i hm
   rw[if_neg hm]
   exact EF h he
theorem D7 {C C':Aq} (h:Eh C C') {m:Nat} {W pc:List Nat}:∀{os:List Ap} {i:Nat} {env:Env} {s:Ag} {pend:List (BN×Env×AV)} {past:List Ag} {r:Az×Env×Ag},FB C m W pc os i env s pend past=some r→FB C' m W pc os i env s pend past=some r
 |[],i,env,s,pend,past,r,he=>he
 |o::os,i,env,s,pend,past,r,he=>by
  simp only[FB]at he ⊢
  split at he
  ·cases he
  ·exact D7 h he
  ·split at he
   ·rename_i v s1 hop
    rw[BJ h hop]
    dsimp only
    split at he
    ·rename_i hm
     rw[if_pos hm]
     split at he
     ·rename_i hc
      simp only[Bool.and_eq_true]at hc
      rw[if_pos (by simp only[hc.1,I7 h hc.2,Bool.and_self])]
      exact D7 h he
     ·cases he
    ·rename_i hm
     rw[if_neg hm]
     split at he
     ·rename_i hf
      rw[if_pos hf]
      exact D7 h he
     ·rename_i hf
      rw[if_neg hf]
      split at he
      ·rename_i hpo
       rw[if_pos (I8 h hpo)]
       exact D7 h he
      ·cases he
   ·rename_i v s1 hop
    rw[BJ h hop]
    dsimp only
    split at he
    ·rename_i p E
     split at he
     ·rename_i hc
      rw[Bool.and_eq_true]at hc
      rw[if_pos (by rw[Bool.and_eq_true];exact⟨hc.1,EF h hc.2⟩)]
      exact he
     ·cases he
    ·cases he
   ·cases he
theorem EY {C C':Aq} (h:Eh C C') {N N':Nat} (hN:N≤N'):∀{c:AY} {env:Env} {s:Ag} {r:Az×Env×Ag},EO C N c env s=some r→EO C' N' c env s=some r:=by
 intro c
 induction c with
 |skip=>intro env s r he;exact he
 |exit id=>intro env s r he;exact he
 |ret=>intro env s r he;exact he
 |region head JB ops live trunc=>
  intro env s r he
  simp only[EO]at he ⊢
  split at he
  ·split at he
   ·rename_i hops
    rw[Ew h hops]
    exact he
   ·rename_i r' hne
    have:=Ew h he
    rw[this]
    split
    ·rename_i e1 s1 heq
     cases heq
     exact absurd he (hne _ _)
    ·rfl
  ·cases he
 |mix m W pc JB ops live trunc=>
  intro env s r he
  simp only[EO]at he ⊢
  split at he
  ·split at he
   ·rename_i hops
    rw[D7 h hops]
    exact he
   ·rename_i r' hne
    rw[D7 h he]
    split
    ·rename_i e1 s1 heq
     cases heq
     exact absurd he (hne _ _)
    ·rfl
  ·cases he
 |par m un JB ops live trunc=>
  intro env s r he
  simp only[EO]at he ⊢
  split at he
  ·rename_i Alg sf hfz
   split at he
   ·rename_i BD s1 hh
    have hh':KE C' m un ops Alg sf=some (BD,s1):=by
        unfold KE at hh ⊢
        split at hh
        ·rename_i es hes
         rw[Iz h hes]
         exact hh
        ·cases hh
    rw[hh']
    simp only
    split at he
    ·rename_i hops
     rw[Ew h hops]
     exact he
    ·rename_i r' hne
     have:=Ew h he
     rw[this]
     split
     ·rename_i e1 s1 heq
      cases heq
      exact absurd he (hne _ _)
     ·rfl
   ·cases he
  ·cases he
 |seq a b iha ihb=>
  intro env s r he
  simp only[EO]at he ⊢
  split at he
  ·rename_i env' s' ha
   rw[iha ha]
   exact ihb he
  ·rename_i r' hne
   have:=iha he
   rw[this]
   split
   ·rename_i e1 s1 heq
    cases heq
    exact absurd he (hne _ _)
   ·rfl
 |cond c a b iha ihb=>
  intro env s r he
  simp only[EO]at he ⊢
  split at he
  ·exact iha he
  ·exact ihb he
  ·cases he
 |block id a iha=>
  intro env s r he
  simp only[EO]at he ⊢
  split at he
  ·rename_i j env' s' ha
   rw[iha ha]
   exact he
  ·rename_i r' hne
   have:=iha he
   rw[this]
   split
   ·rename_i j e1 s1 heq
    cases heq
    exact absurd he (hne _ _ _)
   ·rfl
 |loop live a iha=>
  intro env s r he
  simp only[EO]at he ⊢
  exact PO (fun env s r he=>iha he) hN he
theorem X3 {C C':Aq} (h:Eh C C') {N N':Nat} (hN:N≤N') {fn:FC} {args:List AV} {s:Ag} {r:AL×Ag} (he:evF C N fn args s=some r):evF C' N' fn args s=some r:=by
 unfold evF at he ⊢
 cases hc:EO C N fn.body (params args 0) s with
 |none=>rw[hc]at he;cases he
 |some x=>
  rw[EY h hN hc]
  rw[hc]at he
  exact he
theorem X4 {C C':Aq} (h:Eh C C') {d:DFn} {c v:AV} {env:Env} {s:Ag} {r:AL×Ag} (he:Vj C d c v env s=some r):Vj C' d c v env s=some r:=by
 unfold Vj at he ⊢
 split at he
 ·split at he
  ·rename_i ht
   rw[if_pos ht]
   split at he
   ·rename_i u s' ho
    rw[BJ h ho]
    exact he
   ·cases he
  ·cases he
 ·cases he
theorem X5 {C C':Aq} (h:Eh C C') {N N':Nat} (hN:N≤N') {d:DFn} {args:List AV} {s:Ag} {r:AL×Ag} (he:evD C N d args s=some r):evD C' N' d args s=some r:=by
 unfold evD at he ⊢
 cases hc:EO C N (.seq d.AhK d.pre2) (params args 0) s with
 |none=>rw[hc]at he;cases he
 |some x=>
  rw[EY h hN hc]
  rw[hc]at he
  obtain⟨e,env,s1⟩:=x
  cases e with
  |ret=>exact he
  |Ee v=>exact he
  |exit id=>cases he
  |normal=>
   simp only at he ⊢
   split at he
   ·rename_i hj
    cases hc2:EO C N d.post env s1 with
    |none=>rw[hc2]at he;cases he
    |some y=>
     rw[EY h hN hc2]
     rw[hc2]at he
     obtain⟨e2,Di,s2⟩:=y
     cases e2 with
     |ret=>exact he
     |normal=>exact he
     |exit id=>cases he
     |Ee v=>exact X4 h he
   ·cases he
theorem KZ {AP:Nat→Option Hf}:∀{n n':Nat},n≤n'→Eh (run AP n) (run AP n')
 |0,_,_,_,_,_,_,he=>by simp[run]at he
 |n+1,0,h,_,_,_,_,_=>by omega
 |n+1,n'+1,h,f,args,s,r,he=>by
  simp only[run]at he ⊢
  split at he
  ·rename_i fn hf
   split at he
   ·rename_i hl
    rw[if_pos hl]
    exact X3 (KZ (by omega)) (by omega) he
   ·cases he
  ·exact he
  ·rename_i d hf
   split at he
   ·rename_i hl
    rw[if_pos hl]
    exact X5 (KZ (by omega)) (by omega) he
   ·cases he
  ·cases he
end AI
end Go.Proofs.YtiimoiecghmebaaDoor
