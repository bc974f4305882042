/- Lists in the order of a key, looked up by key: plain. -/
import Derived.Test.YtjijnamhalgamaaGreatDoorBMaa
set_option linter.unusedVariables false
set_option maxRecDepth 4000
namespace Go.Proofs.YtjijnamhalgamaaGreatDoor
namespace AI
section
variable {α κ:Type} {lt:κ→κ→Bool} {key:α→κ}
def lk [DecidableEq κ] (key:α→κ) (l:List α) (k:κ):Option α:=l.find? fun a=>decide (key a=k)
theorem XK [DecidableEq κ] {l:List α} {k:κ} {a:α} (h:lk key l k=some a):a∈l∧key a=k:=⟨List.mem_of_find?_eq_some h,of_decide_eq_true (List.find?_some (p:=fun a=>decide (key a=k)) h)⟩
theorem AjV [DecidableEq κ] {l:List α} {k:κ}:lk key l k=none↔∀a∈l,key a≠k:=by
 unfold lk
 rw[List.find?_eq_none]
 exact⟨fun h a ha e=>h a ha (decide_eq_true e),fun h a ha e=>h a ha (of_decide_eq_true e)⟩
theorem Wp [DecidableEq κ] (hs:Tq lt):∀{l:List α},Inc lt key l→∀{a:α} {k:κ},a∈l→key a=k→lk key l k=some a
 |[],_,_,_,h,_=>by simp at h
 |b::l,hl,a,k,h,e=>by
  have hl':=List.pairwise_cons.1 hl
  unfold lk
  rcases List.mem_cons.1 h with rfl|hm
  ·rw[List.find?_cons,decide_eq_true e]
  ·have hb:key b≠k:=fun e2=>by
        have:=hl'.1 a hm
        rw[e,e2,hs.irr]at this;cases this
   rw[List.find?_cons,decide_eq_false hb]
   exact Wp hs hl'.2 hm e
theorem Adt [DecidableEq κ] (hs:Tq lt) {l:List α} (hl:Inc lt key l) {k:κ} {a:α}:lk key l k=some a↔a∈l∧key a=k:=⟨XK,fun h=>Wp hs hl h.1 h.2⟩
theorem ne_iff (hs:Tq lt) {x y:κ}:(lt x y=true∨lt y x=true)↔x≠y:=by
 constructor
 ·rintro(h|h) rfl<;>(rw [hs.irr]at h;cases h)
 ·intro h
  cases h1:lt x y
  ·cases h2:lt y x
   ·exact absurd (hs.tot _ _ h1 h2) h
   ·exact .inr rfl
  ·exact .inl rfl
theorem Po (hs:Tq lt) {x y:α} {l:List α}:y∈BZ lt key x l↔y=x∨y∈l∧key y≠key x:=by
 rw[← ne_iff hs]
 simp only[BZ,below,above,List.mem_append,List.mem_filter,List.mem_singleton]
 constructor
 ·rintro((h|h)|h)
  ·exact .inr ⟨h.1,.inl h.2⟩
  ·exact .inl h
  ·exact .inr ⟨h.1,.inr h.2⟩
 ·rintro(h|⟨h,h2|h2⟩)
  ·exact .inl (.inr h)
  ·exact .inl (.inl ⟨h,h2⟩)
  ·exact .inr ⟨h,h2⟩
theorem Agr (hs:Tq lt) {k:κ} {y:α} {l:List α}:y∈Gg lt key k l↔y∈l∧key y≠k:=by
 rw[← ne_iff hs]
 simp only[Gg,below,above,List.mem_append,List.mem_filter]
 constructor
 ·rintro(h|h)
  ·exact⟨h.1,.inl h.2⟩
  ·exact⟨h.1,.inr h.2⟩
 ·rintro⟨h,h2|h2⟩
  ·exact .inl ⟨h,h2⟩
  ·exact .inr ⟨h,h2⟩
theorem Adu [DecidableEq κ] (hs:Tq lt) {x:α} {l:List α} (hl:Inc lt key l) {k:κ}:lk key (BZ lt key x l) k=if k=key x then some x else lk key l k:=by
 have hp:=Fe (x:=x) hs hl
 by_cases e:k=key x
 ·rw[if_pos e]
  exact Wp hs hp ((Po hs).2 (.inl rfl)) e.symm
 ·rw[if_neg e]
  apply Option.ext
  intro a
  rw[Adt hs hp,Adt hs hl,Po hs]
  constructor
  ·rintro⟨rfl|h,h2⟩
   ·exact absurd h2.symm e
   ·exact⟨h.1,h2⟩
  ·rintro⟨h,h2⟩
   exact⟨.inr ⟨h,by rw[h2];exact e⟩,h2⟩
theorem AlE [DecidableEq κ] (hs:Tq lt) {k0:κ} {l:List α} (hl:Inc lt key l) {k:κ}:lk key (Gg lt key k0 l) k=if k=k0 then none else lk key l k:=by
 have hp:=FZ (k:=k0) hs hl
 by_cases e:k=k0
 ·rw[if_pos e,AjV]
  intro a ha
  rw[e];exact((Agr hs).1 ha).2
 ·rw[if_neg e]
  apply Option.ext
  intro a
  rw[Adt hs hp,Adt hs hl,Agr hs]
  constructor
  ·rintro⟨h,h2⟩;exact⟨h.1,h2⟩
  ·rintro⟨h,h2⟩;exact⟨⟨h,by rw[h2];exact e⟩,h2⟩
theorem AhP (hs:Tq lt):∀{a b:List κ},a.Pairwise (fun x y=>lt x y=true)→b.Pairwise (fun x y=>lt x y=true)→(∀ x,x∈a↔x∈b)→a=b
 |[],[],_,_,_=>rfl
 |[],y::b,_,_,h=>absurd ((h y).2 (by simp)) (by simp)
 |x::a,[],_,_,h=>absurd ((h x).1 (by simp)) (by simp)
 |x::a,y::b,ha,hb,h=>by
  have ha':=List.pairwise_cons.1 ha
  have hb':=List.pairwise_cons.1 hb
  have hxy:x=y:=by
   rcases List.mem_cons.1 ((h x).1 (by simp))with e|h1
   ·exact e
   rcases List.mem_cons.1 ((h y).2 (by simp))with e|h2
   ·exact e.symm
   have:=hs.tr _ _ _ (ha'.1 y h2) (hb'.1 x h1)
   rw[hs.irr]at this;cases this
  subst hxy
  congr 1
  refine AhP hs ha'.2 hb'.2 fun z=>?_
  have hz:=h z
  simp only[List.mem_cons]at hz
  constructor
  ·intro h1
   rcases hz.1 (.inr h1)with rfl|h2
   ·have:=ha'.1 _ h1;rw[hs.irr]at this;cases this
   ·exact h2
  ·intro h1
   rcases hz.2 (.inr h1)with rfl|h2
   ·have:=hb'.1 _ h1;rw[hs.irr]at this;cases this
   ·exact h2
theorem Adv {l:List α} (h:Inc lt key l):(l.map key).Pairwise fun x y=>lt x y=true:=by
 rw[List.pairwise_map];exact h
theorem AiH (hs:Tq lt) {l:List κ} (h:l.Pairwise fun x y=>lt x y=true):l.Nodup:=by
 refine h.imp ?_
 intro a b hab e
 rw[e,hs.irr]at hab;cases hab
theorem inc_pw [DecidableEq κ] (hs:Tq lt) {R:α→α→Prop} {l m:List α} (hl:Inc lt key l) (hm:Inc lt key m) (h1:∀a∈l,∃b∈m,key b=key a∧R a b) (h2:∀b∈m,∃a∈l,key a=key b):l.length=m.length∧∀k (h:k<l.length) (h':k<m.length),R l[k] m[k]:=by
 have hk:l.map key=m.map key:=AhP hs (Adv hl) (Adv hm) fun x=>by
  simp only[List.mem_map]
  constructor
  ·rintro⟨a,ha,rfl⟩;obtain⟨b,hb,e,_⟩:=h1 a ha;exact⟨b,hb,e⟩
  ·rintro⟨b,hb,rfl⟩;obtain⟨a,ha,e⟩:=h2 b hb;exact⟨a,ha,e⟩
 have hlen:l.length=m.length:=by have:=congrArg List.length hk;simpa using this
 refine⟨hlen,fun k h h'=>?_⟩
 obtain⟨b,hb,e,hr⟩:=h1 l[k] (List.getElem_mem h)
 have e2:key l[k]=key m[k]:=by
  have:=congrArg (fun z=>z[k]?) hk
  simp only[List.getElem?_map,List.getElem?_eq_getElem h,List.getElem?_eq_getElem h',Option.map_some,Option.some.injEq]at this
  exact this
 have:lk key m (key m[k])=some b:=Wp hs hm hb (by rw[e,e2])
 rw[Wp hs hm (List.getElem_mem h') rfl]at this
 cases this
 exact hr
theorem nd_lt [DecidableEq α]:∀{R W:List α} {x:α},R.Nodup→(∀ y∈R,y∈W)→x∈W→x∉R→R.length<W.length
 |[],W,x,_,_,hx,_=>List.length_pos_of_mem hx
 |y::R,W,x,hR,h,hx,hn=>by
  have hR':=List.nodup_cons.1 hR
  have h1:=nd_lt (R:=R) (W:=W.erase y) (x:=x) hR'.2 (fun z hz=>(List.mem_erase_of_ne (fun e=>hR'.1 (by rw[← e];exact hz))).2 (h z (by simp[hz]))) ((List.mem_erase_of_ne (fun e=>hn (by rw[e];simp))).2 hx) (fun hz=>hn (by simp[hz]))
  have h2:=List.length_erase_of_mem (h y (by simp))
  have h3:=List.length_pos_of_mem (h y (by simp))
  rw[List.length_cons];omega
end
end AI
end Go.Proofs.YtjijnamhalgamaaGreatDoor
