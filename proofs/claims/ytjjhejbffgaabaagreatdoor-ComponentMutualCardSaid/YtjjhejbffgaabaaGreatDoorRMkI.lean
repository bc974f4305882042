/- slices.Sorted over what maps.Keys hands back (a map of the call's own with numbers as keys): an entry of the table, by the kit's shelf. -/
import Derived.Shelf.SlIterI.Sorted
import Derived.Shelf.SlIterI.Keys
import Derived.Ground.GgzProg
import Derived.Test.YtjjhejbffgaabaaGreatDoorROwR
import Derived.Test.YtjjhejbffgaabaaGreatDoorRSqI
set_option linter.unusedVariables false
set_option maxRecDepth 4000
namespace Go.Proofs
open Go.RowKit Go.Maps Go.Sort Go.Shelf
shelf_lay_g SlLaysZI.n7 Ggz 7 at Tryz 39 as Tryz.keysK
shelf_lay_g SlLaysZI.n6 Ggz 6 at Tryz 38 as Tryz.sortedK
theorem Tryz.sortsK (m:Nat):AnyZI.SortsIn Tryz.prog Tryz.sortedK_ren Fence.wide m:=
 ⟨fun blk off cap ss W hH hblk hsz=>callsIn_wide.2 (AnyM.slices_Sort_int Tryz.sortQ blk off cap ss W hH hblk hsz),
  fun p cap W=>callsIn_wide.2 (AnyM.slices_Sort_int_none Tryz.sortQ p cap W)⟩
namespace YtjjhejbffgaabaaGreatDoor
namespace AI
def ZH:List (AV×AV)→Option (List Int)
 |[]=>some []
 |(.int .i64 x,_)::l=>(ZH l).map (x::·)
 |_=>none
theorem SY:∀{es:List (AV×AV)} {l:List Int},ZH es=some l→es.map (·.1)=l.map (.int .i64)
 |[],l,h=>by cases h;rfl
 |(k,v)::es,l,h=>by
  cases k<;>first|(simp [ZH]at h;done)|skip
  case int k a=>cases k<;>first|(simp [ZH]at h;done)|exact(by obtain⟨l',h1,rfl⟩:=Option.map_eq_some_iff.1 h;rw[List.map_cons,SY h1];rfl)
def Uu:List AV→Ag→Option (AU×Ag)
 |[.fn k [.ref o g 0 0]],s=>bif Nat.beq k 70 then match nth s.σ o with
   |some (.arr g' es nn cl [.map o2 g2])=>match nth s.σ o2 with
     |some (.mp g3 cl2 ents)=>if g=g'∧es=1∧g2=g3 then match ZH ents with
          |some (x::l)=>if(x::l).Nodup∧(∀ z∈x::l,-9223372036854775808≤z∧z≤9223372036854775807)∧(x::l).length≤1099511627776 then
            some (.ok (.own s.σ.length s.ctr 0 (x::l).length),AI.push s (.arr s.ctr 1 true true ((Gv (x::l)).map (.int .i64))))else none
          |_=>none
      else none
     |_=>none
   |_=>none
  else none
 |_,_=>none
def Vu (v:Value):Option (DataW Unit×List MemPlace):=some (.lit (.bool true),[])
set_option maxHeartbeats 1000000 in
theorem Ahx:Am Tryz.prog fun f' args s=>if f'=38 then Uu args s else none:=by
 intro f args s out s' h
 replace h:(if f=38 then Uu args s else none)=some (out,s'):=h
 rcases Decidable.em (f=38)with hf|hf
 case inr=>rw[if_neg hf]at h;cases h
 rw[if_pos hf]at h
 subst hf
 unfold Uu at h
 split at h
 case h_2=>cases h
 rename_i k o g
 cases hk:Nat.beq k 70 with
 |false=>rw[hk]at h;cases h
 |true=>
 rw[hk]at h
 have hk':=Nat.eq_of_beq_eq_true hk
 subst hk'
 replace h:(match nth s.σ o with
  |some (.arr g' es nn cl [.map o2 g2])=>match nth s.σ o2 with
         |some (.mp g3 cl2 ents)=>if g=g'∧es=1∧g2=g3 then match ZH ents with
           |some (x::l)=>if(x::l).Nodup∧(∀ z∈x::l,-9223372036854775808≤z∧z≤9223372036854775807)∧(x::l).length≤1099511627776 then
                some (AU.ok (.own s.σ.length s.ctr 0 (x::l).length),AI.push s (.arr s.ctr 1 true true ((Gv (x::l)).map (.int .i64))))else none
           |_=>none
          else none
         |_=>none
  |_=>none)=some (out,s'):=h
 split at h
 case h_2=>cases h
 rename_i g' es nn cl o2 g2 ho
 split at h
 case h_2=>cases h
 rename_i g3 cl2 ents ho2
 split at h
 case isFalse=>cases h
 rename_i hg
 obtain⟨rfl,rfl,rfl⟩:=hg
 split at h
 case h_2=>cases h
 rename_i x l hd
 split at h
 case isFalse=>cases h
 rename_i hc
 obtain⟨hnd,hrg,hlen⟩:=hc
 cases h
 rw[Az]at ho ho2
 refine fun w0 B Z φ w vs hI hargs=>.inl ⟨⟨_,Tryz.func38,rfl,by decide⟩,?_⟩
 obtain⟨hl,ha⟩:=hargs
 obtain⟨v0,h0,r0⟩:=ha 0 _ rfl
 cases r0 with
 |fn _ _ cvs hcl hcr=>
 have r1:=hcr 0 _ rfl
 have hc1:cvs.size=1:=by simpa using hcl.symm
 obtain⟨pv,rfl⟩:∃pv,cvs=#[pv]:=by
  match cvs,hc1 with
  |⟨[pv]⟩,_=>exact⟨pv,rfl⟩
 replace r1:Rep w Z φ s.ctr (.ref o g 0 0) pv:=r1
 cases r1 with
 |ref _ _ _ _ Bm es size hgc hφ=>
 obtain⟨_,_,hob⟩:=hI.objs o _ ho
 rw[hφ]at hob
 obtain⟨_,hes,hBB,_,_,c,t,hcell,_,hH⟩:=hob
 subst hes
 obtain⟨_,hH0⟩:=hH 0 _ rfl
 obtain⟨v,hv,rv,_,_⟩:=hH0 0 _ rfl
 cases rv with
 |map _ _ b es2 size2 hg2 hφ2=>
 obtain⟨_,b',es',size',hφ3,hBb,me,clock,hmap,⟨⟨hms,hst⟩,_⟩,hent⟩:=hI.objs o2 _ ho2
 rw[hφ2]at hφ3
 cases hφ3
 have hz:=SY hd
 have hlz:ents.length=(x::l).length:=by have:=congrArg List.length hz;simpa using this
 have hkey:∀i (hi:i<me.size),me[i].key=.int .i64 ((x::l)[i]'(by omega)):=by
  intro i hi
  have hi':i<ents.length:=by omega
  obtain⟨e',he',rk,_,_,_⟩:=hent i _ (List.getElem?_eq_getElem hi')
  rw[Array.getElem?_eq_getElem hi]at he'
  cases he'
  have e1:(ents.map (·.1))[i]?=((x::l).map (AV.int .i64))[i]?:=by rw[hz]
  rw[List.getElem?_map,List.getElem?_map,List.getElem?_eq_getElem hi',List.getElem?_eq_getElem (show i<(x::l).length by omega)]at e1
  have e2:(ents[i]).1=.int .i64 ((x::l)[i]'(by omega)):=by simpa using e1
  rw[e2]at rk
  generalize me[i].key=y at rk
  cases rk
  rfl
 have hlz':ents.length=l.length+1:=hlz
 have hkeys:me.toList.map (·.key)=(x::l).map (Value.int .i64):=by
  apply List.ext_getElem
  ·simp;omega
  ·intro i h1 h2
   rw[List.getElem_map,List.getElem_map]
   simpa using hkey i (by simpa using h1)
 obtain⟨D0,hD0⟩:∃D0:DataW Unit,D0=.map ((me.toList.map (Go.WideElems.rg Tryz.prog (Tryz.keysK_ren.t 26) Vu)).foldr DataW.insert []):=⟨_,rfl⟩
 have hu:(Tryz.prog).underlying (Tryz.keysK_ren.t 26)=some (.int .i64):=Tryz.keysK.t26
 have hko:∀z∈x::l,keyOf Tryz.prog (Tryz.keysK_ren.t 26) (.int .i64 z)=some (.int .i64 z):=by
  intro z hz
  have hw:(Lit.int .i64 z).wf=true:=by
   have:=hrg z hz
   have hmin:IntKind.i64.min=-9223372036854775808:=by decide
   have hmax:IntKind.i64.max=9223372036854775807:=by decide
   simp[Lit.wf,hmin,hmax]
   omega
  simp[keyOf,hu,mapKey,hw]
 have hrd:∀y∈me.toList,∃z∈x::l,y.key=.int .i64 z∧Go.WideElems.rd Tryz.prog (Tryz.keysK_ren.t 26) Vu y=some (.int .i64 z,.lit (.bool true)):=by
  intro y hy
  have:y.key∈me.toList.map (·.key):=List.mem_map_of_mem hy
  rw[hkeys]at this
  obtain⟨z,hz,e⟩:=List.mem_map.1 this
  refine⟨z,hz,e.symm,?_⟩
  unfold Go.WideElems.rd
  rw[← e,hko z hz]
  rfl
 have AjI:me.toList.map (Go.WideElems.rg Tryz.prog (Tryz.keysK_ren.t 26) Vu)=(x::l).map fun z=>(Lit.int .i64 z,(.lit (.bool true):DataW Unit)):=by
  have e1:me.toList.map (Go.WideElems.rg Tryz.prog (Tryz.keysK_ren.t 26) Vu)=(me.toList.map (·.key)).map fun v=>match v with| .int .i64 z=>(Lit.int .i64 z,(.lit (.bool true):DataW Unit))|_=>(.bool false,.nil):=by
   rw[List.map_map]
   refine List.map_congr_left fun y hy=>?_
   obtain⟨z,_,e,hr⟩:=hrd y hy
   show(Go.WideElems.rd _ _ _ y).getD _=_
   rw[hr,Function.comp_apply,e]
   rfl
  rw[e1,hkeys,List.map_map]
  rfl
 have hown:w.ownsMap Tryz.prog (Tryz.keysK_ren.t 26) Vu b me.size D0:=by
  refine⟨me,clock,hmap,⟨?_,⟨?_,hst.1,?_⟩,?_⟩,Nat.le_refl _,hD0⟩
  ·have hm:(1099511627776:Nat)≤maxLen:=by decide
   omega
  ·exact fun y hy=>hst.2 _ (List.mem_map_of_mem hy)
  ·rw[hkeys]
   exact List.pairwise_map.2 (hnd.imp fun h e=>h (by cases e;rfl))
  ·intro y hy
   obtain⟨z,_,_,hr⟩:=hrd y hy
   exact⟨_,hr⟩
 have hperm:(intKeys D0).Perm (x::l):=by
  rw[hD0,AjI]
  show(List.map _ _).Perm _
  refine((Go.WideShapes.sorted_perm _).map _).trans ?_
  rw[List.map_map]
  exact .of_eq ((List.map_congr_left fun _ _=>rfl).trans (List.map_id _))
 have hsz:Maps.size D0≤1099511627776:=by
  have:=hown.size_le
  omega
 have hBm:Bm<w.heap.size:=(Array.getElem?_eq_some_iff.1 hcell).1
 have hcm:w.cell? ⟨Bm,0,none⟩=some (.map (some b)):=by
  have e0:0*1+0=0:=rfl
  rw[e0]at hv
  simpa[World.cell?,hcell]using hv
 have hseq:SeqGives Fence.wide 3 Tryz.prog 70 #[.pointer (some ⟨Bm,0,none⟩)] encZ (fun ss=>ss.Perm (intKeys D0)) (Maps.size D0) w:=
  AnyZI.keys_gives (ρ:=Tryz.keysK_ren) {Tryz.keysK with} Fence.wide _ trivial rfl (by omega) Bm b me.size D0 _ hBm hcm hown
 have hm:(1099511627776:Nat)≤maxLen:=by decide
 have cS:=AnyZI.sorted_in Tryz.sortedK Fence.wide 6 trivial trivial trivial trivial rfl (by omega) (Tryz.sortsK _) (enters_of Tryz.func69 (by kernel_rfl) rfl) 70 #[.pointer (some ⟨Bm,0,none⟩)] trivial (enters_of Tryz.func70 (by kernel_rfl) rfl) _ _ (show Maps.size D0≤maxLen by omega) (by omega) _ hseq
 have hvs:vs=#[.func (.func 70) #[] #[.pointer (some ⟨Bm,0,none⟩)]]:=by
  apply Array.ext'
  refine List.ext_getElem? fun i=>?_
  match i with
  |0=>simpa using h0
  |i+1=>
   have:vs.toList.length=1:=by simpa using hl.symm
   rw[List.getElem?_eq_none (by omega)]
   rfl
 subst hvs
 refine((callsIn_wide (n:=6)).1 cS).mono ?_
 rintro e w' ⟨v,ss,rfl,hS,hrow,hn0,hb⟩
 have hS':ss.Perm (x::l):=hS.trans hperm
 have hso:(ss.mergeSort fun x y=>decide (x≤y))=Gv (x::l):=by
  rw[Qs]
  exact Ia (Ny _) (Ny _) ((Hy _).trans (hS'.trans (Hy _).symm))
 rw[hso,hS'.length_eq]at hrow
 have hl2:(Gv (x::l)).length=(x::l).length:=Vw _
 obtain⟨φ',k1,k2,k3⟩:=hI.pushRow (F:=AV.int .i64) (enc:=encZ) hb (xs:=Gv (x::l)) (by intro h0;rw[h0]at hl2;cases hl2) (by rw[hl2];exact hrow) (fun y _=>⟨rfl,.int _ _,rfl,rfl⟩)
 exact⟨Z,φ',k1,k2,v,rfl,by rw[hl2]at k3;exact k3⟩
end AI
end YtjjhejbffgaabaaGreatDoor
end Go.Proofs
