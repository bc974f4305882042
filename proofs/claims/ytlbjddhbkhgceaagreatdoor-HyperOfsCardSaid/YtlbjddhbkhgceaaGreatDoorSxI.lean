/- slices.Sorted over slices.Values (numbers) as an entry of the table. -/
import Derived.Test.YtlbjddhbkhgceaaGreatDoorSe
import Derived.Test.YtlbjddhbkhgceaaGreatDoorSvI
import Derived.Test.YtlbjddhbkhgceaaGreatDoorOwR
set_option linter.unusedVariables false
set_option maxRecDepth 4000
namespace Go.Proofs.YtlbjddhbkhgceaaGreatDoor
namespace AI
open Go.RowKit
def decI:List AV→Option (List Int)
 |[]=>some []
 | .int .i64 x::l=>(decI l).map (x::·)
 |_=>none
theorem decI_map:∀l:List Int,decI (l.map (AV.int .i64))=some l
 |[]=>rfl
 |x::l=>by
  show(decI (l.map (AV.int .i64))).map (x::·)=_
  rw[decI_map l];rfl
theorem decI_some:∀{xs:List AV} {l:List Int},decI xs=some l→xs=l.map (AV.int .i64)
 |[],l,h=>by cases h;rfl
 |x::xs,l,h=>by
  cases x<;>first|(simp [decI]at h;done)|skip
  case int k a=>cases k<;>first|(simp [decI]at h;done)|exact(by obtain⟨l',h1,rfl⟩:=Option.map_eq_some_iff.1 h;rw[decI_some h1];rfl)
def srtI (l:List Int):List Int:=l.mergeSort fun x y=>decide (x≤y)
def svSpecI:List AV→Sto→Option (AOut×Sto)
 |[.fn k [.fref [.sl nn xs]]],s=>bif Nat.beq k 59 then match decI xs with
   |some []=>some (.ok (.sl false []),s)
   |some (x::l)=>if nn=true∧(x::l).length≤1099511627776 then some (.ok (.own s.σ.length s.ctr 0 (x::l).length),AI.push s (.arr s.ctr 1 true true ((srtI (x::l)).map (AV.int .i64))))else none
   |none=>none
  else none
 |_,_=>none
theorem sv_okI:CallSound Tryz.prog fun f' args s=>if f'=35 then svSpecI args s else none:=by
 intro f args s out s' h
 replace h:(if f=35 then svSpecI args s else none)=some (out,s'):=h
 rcases Decidable.em (f=35)with hf|hf
 case inr=>rw[if_neg hf]at h;cases h
 rw[if_pos hf]at h
 subst hf
 unfold svSpecI at h
 split at h
 case h_2=>cases h
 rename_i k nn xs
 cases hk:Nat.beq k 59 with
 |false=>rw[hk]at h;cases h
 |true=>
 rw[hk]at h
 have hk':=Nat.eq_of_beq_eq_true hk
 subst hk'
 refine fun w0 B Z φ w vs hI hargs=>.inl ⟨⟨_,Tryz.func35,rfl,by decide⟩,?_⟩
 obtain⟨hl,ha⟩:=hargs
 obtain⟨v0,h0,r0⟩:=ha 0 _ rfl
 cases r0 with
 |fn _ _ cvs hcl hcr=>
 have r1:=hcr 0 _ rfl
 have hc1:cvs.size=1:=by simpa using hcl.symm
 obtain⟨pv,rfl⟩:∃pv,cvs=#[pv]:=by
  match cvs,hc1 with
  |⟨[pv]⟩,_=>exact⟨pv,rfl⟩
 replace r1:Rep w Z φ s.ctr (.fref [.sl nn xs]) pv:=r1
 cases r1 with
 |fref _ b off fv hcell hrv=>
 obtain⟨hz,hcv,_,_⟩:=hcell 0 _ rfl
 have rsl:=hrv 0 _ rfl
 rw[Nat.add_zero]at hz hcv
 have hBlt:=hI.live _ _ hz
 have hvs:vs=#[.func (.func 59) #[] #[.pointer (some ⟨b,off,none⟩)]]:=by
  apply Array.ext'
  refine List.ext_getElem? fun i=>?_
  match i with
  |0=>simpa using h0
  |i+1=>
   have:vs.toList.length=1:=by simpa using hl.symm
   rw[List.getElem?_eq_none (by omega)]
   rfl
 subst hvs
 have run:∀(zs:List Int),zs.length≤1099511627776→GivesI Fence.wide 3 Tryz.prog 59 #[.pointer (some ⟨b,off,none⟩)] zs w→
  Calls Tryz.prog 35 #[.func (.func 59) #[] #[.pointer (some ⟨b,off,none⟩)]] w fun e w'=>∃(v:Value) (t:TypeId),e=.returned v∧w'.ownsRow w.heap.size t 1 v zs.length ((srtI zs).map encZ)∧(v=.slice none 0 0↔zs=[])∧Below w.heap.size w w':=by
  intro zs hzl hg
  have hm:(1099511627776:Nat)≤maxLen:=by decide
  have cS:=sortedOfI Tryz.sortedI Fence.wide 6 trivial trivial trivial trivial rfl (by omega) (Tryz.sortsI _) (enters_of Tryz.func58 (by kernel_rfl) rfl) 59 #[.pointer (some ⟨b,off,none⟩)] trivial (enters_of Tryz.func59 (by kernel_rfl) rfl) zs (by omega) (by omega) w hg
  exact((callsIn_wide (n:=6)).1 cS).mono fun e w' ⟨v,he,hr,hn,hb⟩=>⟨v,_,he,hr,hn,hb⟩
 obtain⟨u,hu⟩:∃u,fv 0=u:=⟨_,rfl⟩
 rw[hu]at rsl hcv
 cases hd:decI xs with
 |none=>rw[hd]at h;cases h
 |some zs=>
 rw[hd]at h
 obtain rfl:=decI_some hd
 cases zs with
 |nil=>
  replace h:some (AOut.ok (.sl false []),s)=some (out,s'):=h
  cases h
  have hg:GivesI Fence.wide 3 Tryz.prog 59 #[.pointer (some ⟨b,off,none⟩)] [] w:=by
   cases rsl with
   |nilsl=>exact vals0I Fence.wide 3 trivial rfl (by omega) b off none 0 w hBlt hcv
   |sl _ n b1 off1 cap1 es f1 hn hcap hes hsz hc hr=>
    obtain rfl:n=0:=hn
    exact vals0I Fence.wide 3 trivial rfl (by omega) b off _ cap1 w hBlt hcv
   |sl0 a=>exact vals0I Fence.wide 3 trivial rfl (by omega) b off _ 0 w hBlt hcv
  refine(run [] (by simp) hg).mono ?_
  rintro e w' ⟨v,t,rfl,hrow,hn0,hb⟩
  obtain rfl:=hn0.2 rfl
  obtain⟨k1,k2⟩:=hI.grow hb (fun _ _ h=>h) (fun _ _ h=>.inl h) (fun b i h=>Nat.lt_of_lt_of_le (hI.live b i h) hb.size)
  exact⟨Z,φ,k1,k2,_,rfl,.nilsl⟩
 |cons x l=>
  replace h:(if nn=true∧(x::l).length≤1099511627776 then some (AOut.ok (.own s.σ.length s.ctr 0 (x::l).length),AI.push s (.arr s.ctr 1 true true ((srtI (x::l)).map (AV.int .i64))))else none)=some (out,s'):=h
  by_cases hcond:nn=true∧(x::l).length≤1099511627776
  case neg=>rw[if_neg hcond]at h;cases h
  rw[if_pos hcond]at h
  cases h
  obtain⟨rfl,hlen⟩:=hcond
  cases rsl with
  |sl _ n b1 off1 cap1 es f1 hn hcap hes hsz hc hr=>
   obtain rfl:1=es:=hsz 0 _ rfl
   obtain rfl:n=(x::l).length:=by rw[hn,List.length_map]
   have hb1:b1<w.heap.size:=hI.live _ _ (hc 0 _ 0 _ rfl rfl).1
   have hg:=valsI Fence.wide 3 trivial rfl (by omega) b off b1 off1 cap1 (x::l) (by omega) w hb1 hBlt hcv (fun j hj=>by
        have hi:(List.map (AV.int .i64) (x::l))[j]?=some ((AV.int .i64) (x::l)[j]):=by rw[List.getElem?_map,List.getElem?_eq_getElem hj];rfl
        obtain⟨_,e,_,_⟩:=hc j _ 0 _ hi rfl
        have r:=hr j _ 0 _ hi rfl
        rw[Nat.mul_one,Nat.add_zero]at e
        rw[e,List.getElem?_eq_getElem hj]
        show some _=some (encZ (x::l)[j])
        generalize (x::l)[j]=y at r
        generalize f1 j 0=z at r
        cases r
        rfl)
   refine(run (x::l) hlen hg).mono ?_
   rintro e w' ⟨v,t,rfl,hrow,hn0,hb⟩
   have hl:(srtI (x::l)).length=(x::l).length:=by unfold srtI;simp
   obtain⟨φ',k1,k2,k3⟩:=hI.pushRow (F:=(AV.int .i64)) (enc:=encZ) hb (xs:=srtI (x::l)) (by intro h0;rw[h0]at hl;cases hl) (by rw[hl];exact hrow) (fun y _=>⟨rfl,.int _ _,rfl,rfl⟩)
   exact⟨Z,φ',k1,k2,v,rfl,by rw[hl]at k3;exact k3⟩
end AI
end Go.Proofs.YtlbjddhbkhgceaaGreatDoor
