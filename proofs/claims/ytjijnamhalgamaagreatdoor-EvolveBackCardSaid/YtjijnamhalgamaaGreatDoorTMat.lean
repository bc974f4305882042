/- Sorting in place (CmpFunc[graphdb/api.Rule]): the whole. Sorting (slices.SortFunc[[]graphdb/api.Rule,graphdb/api.Rule]), leaving out what repeats (slices.Compact[[]graphdb/api.Rule,graphdb/api.Rule]). Leaving out what repeats (slices.Compact[[]graphdb/api.Rule,graphdb/api.Rule]). The rules that a migration leaves: the program's Rules. A step keeps graphs in good form; their lengths: plain. -/
import Derived.Test.YtjijnamhalgamaaGreatDoorTMas
import Derived.Test.YtjijnamhalgamaaGreatDoorTPrC
import Derived.Test.YtjijnamhalgamaaGreatDoorTMao
import Derived.Test.YtjijnamhalgamaaGreatDoorTMap
import Derived.Test.YtjijnamhalgamaaGreatDoorTMar
import Derived.Test.YtjijnamhalgamaaGreatDoorTMan
import Derived.Test.YtjijnamhalgamaaGreatDoorTEvE
import Derived.Test.YtjijnamhalgamaaGreatDoorTMak
set_option linter.unusedVariables false
set_option maxRecDepth 4000
namespace Go.Proofs.YtjijnamhalgamaaGreatDoor
namespace AI
section
open Go.Sort
abbrev Abg (Bv:Obj) (g len:Nat) (nn cl:Bool) (a b:Nat):Prop:=∀(c:Nat) (limit:Int) (d:Array GR),d.size=len→b≤len→a≤b→0≤limit→limit<2^62→Below BX a b d→
 Ar (Ad tab) 119 [.own 1 g 0 len,.int .i64 a,.int .i64 b,.int .i64 limit,.fn 56 []] ⟨[Bv,.arr g 6 nn cl (vs GR.av d.toList)],c⟩ fun out s'=>∃c' D,out=.ok (.BD [])∧s'=⟨[Bv,.arr g 6 nn cl (vs GR.av D.toList)],c'⟩∧PermIn a b d D∧SortedIn BX a b D
def Eo:Bg→Bg
 | .seq _ b=>b
 |c=>c
def II:Bg→Bg
 | .seq a _=>a
 |c=>c
def N7:Bg→Bg
 | .block _ a=>a
 |c=>c
noncomputable def UL:Bg:=Eo (Eo (Eo (N7 l119_0_b)))
noncomputable def AhI:Bg:=Eo (Eo (Eo UL))
noncomputable def AhJ:Bg:=Eo AhI
noncomputable def Anb:Bg:=Eo AhJ
abbrev AiS (Bv:Obj) (g len:Nat) (nn cl:Bool) (a b:Nat) (d:Array GR) (m:Nat) (env:Env) (s:Am):Prop:=
 ∃(a' b' c:Nat) (limit:Int) (wb wp:Bool) (D:Array GR),m=b'-a'∧a'≤b'∧b'≤len∧b'-a'≤b-a∧0≤limit∧limit<2^62∧D.size=len∧Below BX a' b' D∧(∀ R,PermIn a' b' D R→SortedIn BX a' b' R→PermIn a b d R∧SortedIn BX a b R)∧
  env=[(0,.own 1 g 0 len),(1,.int .i64 a'),(2,.int .i64 b'),(3,.int .i64 limit),(4,.fn 56 []),(10,.bool wb),(11,.bool wp)]∧s=⟨[Bv,.arr g 6 nn cl (vs GR.av D.toList)],c⟩
section
variable {Bv:Obj} {g len:Nat} {nn cl:Bool} {a b:Nat} {d:Array GR}
def VR (Bv:Obj) (g len:Nat) (nn cl:Bool) (a b:Nat) (d:Array GR) (m:Nat):AQ→Env→Am→Prop:=
 Agn 1 (AjC l119_0_h (again (AiS Bv g len nn cl a b d) m) (Agn 0 (Adr a119 fun out s'=>∃c' D,out=.ok (.BD [])∧s'=⟨[Bv,.arr g 6 nn cl (vs GR.av D.toList)],c'⟩∧PermIn a b d D∧SortedIn BX a b D)))
set_option maxHeartbeats 2000000 in
theorem AkQ {tl:Env} (hs:len<2^61) (ih:∀x y,y-x<b-a→Abg Bv g len nn cl x y) {a' b' c p:Nat} {limit:Int} {wb wp:Bool} {D:Array GR} (hab:a'+12<b') (hb:b'≤len) (hle:b'-a'≤b-a) (hlim:0≤limit) (Nb:limit<2^62) (hD:D.size=len) (hB:Below BX a' b' D)
 (hR:∀R,PermIn a' b' D R→SortedIn BX a' b' R→PermIn a b d R∧SortedIn BX a b R) (hp1:a'≤p) (hp2:p<b'):
 vC (Ad tab) Anb ([(0,.own 1 g 0 len),(1,.int .i64 a'),(2,.int .i64 b'),(3,.int .i64 limit),(4,.fn 56 []),(10,.bool wb),(11,.bool wp),(12,.int .i64 (b'-a':Nat)),(13,.int .i64 p)]++tl) ⟨[Bv,.arr g 6 nn cl (vs GR.av D.toList)],c⟩ (VR Bv g len nn cl a b d (b'-a')):=by
 unfold VR
 (conv=>whnf);repeat' (first|((first|refine kA ?_|(apply Br.mk<;>intro hc))<;>first|exact hc.elim|conv=>whnf)|refine kB ?_)
 refine(Ame hD hb hp1 hp2 hs).mono ?_
 rintro _ _ ⟨c1,rfl,rfl⟩
 generalize hx:partition BX D a' b' p=R
 obtain⟨mid,ap,E⟩:=R
 obtain⟨m1,m2,hE,hBl,hBr,fl,fr⟩:=round_part Es (partition_holds BX) hp1 hp2 (by omega) hB hx
 dsimp only
 conv=>whnf
 apply Aj rfl
 (conv=>whnf);repeat' (first|((first|refine U9 (b'-a') 8 (by omega) (by omega) ?_|refine kA ?_|(apply Br.mk<;>intro hc))<;>first|exact hc.elim|conv=>whnf)|refine kB ?_)
 all_goals first
  |(refine (ih a' mid (by omega) _ limit E (by omega) (by omega) m1 hlim Nb hBl).mono ?_
    rintro _ _ ⟨c2,L,rfl,rfl,q1,q2⟩
    obtain⟨hBL,fin⟩:=fl L q1 q2
    conv=>whnf
    apply Aj rfl
    (conv=>whnf);repeat' (first|((first|refine kA ?_|(apply Br.mk<;>intro hc))<;>first|exact hc.elim|conv=>whnf)|refine kB ?_)
    exact again.mk ⟨_,by omega,mid+1,b',_,limit,_,_,L,rfl,by omega,hb,by omega,hlim,Nb,by rw[q1.1,hE,hD],hBL,fun R h1 h2=>hR R (fin R h1 h2).1 (fin R h1 h2).2,rfl,rfl⟩)
  |(refine (ih (mid+1) b' (by omega) _ limit E (by omega) hb (by omega) hlim Nb hBr).mono ?_
    rintro _ _ ⟨c2,L,rfl,rfl,q1,q2⟩
    obtain⟨hBL,fin⟩:=fr L q1 q2
    conv=>whnf
    apply Aj rfl
    (conv=>whnf);repeat' (first|((first|refine kA ?_|(apply Br.mk<;>intro hc))<;>first|exact hc.elim|conv=>whnf)|refine kB ?_)
    exact again.mk ⟨_,by omega,a',mid,_,limit,_,_,L,rfl,by omega,by omega,by omega,hlim,Nb,by rw[q1.1,hE,hD],hBL,fun R h1 h2=>hR R (fin R h1 h2).1 (fin R h1 h2).2,rfl,rfl⟩)
theorem AkR {tl:Env} (hs:len<2^61) {a' b' c p:Nat} {limit:Int} {wb wp:Bool} {D:Array GR} {K:Env→Am→Prop} {Q:AQ→Env→Am→Prop} (hab:a'+12<b') (hb:b'≤len) (hD:D.size=len) (hB:Below BX a' b' D) (hp1:a'≤p) (hp2:p<b')
 (hK:∀tl,K ([(0,.own 1 g 0 len),(1,.int .i64 a'),(2,.int .i64 b'),(3,.int .i64 limit),(4,.fn 56 []),(10,.bool wb),(11,.bool wp),(12,.int .i64 (b'-a':Nat)),(13,.int .i64 p)]++tl) ⟨[Bv,.arr g 6 nn cl (vs GR.av D.toList)],c⟩)
 (hQ:∀c' mid (E:Array GR),a'<mid→mid≤b'→E.size=len→Below BX mid b' E→(∀ R,PermIn mid b' E R→SortedIn BX mid b' R→PermIn a' b' D R∧SortedIn BX a' b' R)→
   Q (.exit 1) [(0,.own 1 g 0 len),(1,.int .i64 mid),(2,.int .i64 b'),(3,.int .i64 limit),(4,.fn 56 []),(10,.bool wb),(11,.bool wp)] ⟨[Bv,.arr g 6 nn cl (vs GR.av E.toList)],c'⟩):
 vC (Ad tab) (II AhJ) ([(0,.own 1 g 0 len),(1,.int .i64 a'),(2,.int .i64 b'),(3,.int .i64 limit),(4,.fn 56 []),(10,.bool wb),(11,.bool wp),(12,.int .i64 (b'-a':Nat)),(13,.int .i64 p)]++tl) ⟨[Bv,.arr g 6 nn cl (vs GR.av D.toList)],c⟩ (UE K Q):=by
 (conv=>whnf);repeat' (first|((first|exact hK _|((with_reducible show Ci _ _ _);refine Hu (a'-1) ?_)|((with_reducible show Ci _ _ _);refine Hu (p) ?_)|apply kE D6|refine Hr (fun hc=>?_) (fun hc=>?_)|refine kA ?_|(apply Br.mk<;>intro hc))<;>first|exact hc.elim|conv=>whnf)|refine kB ?_)
 refine(Al8 hD hb hp1 hp2 hs).mono ?_
 rintro _ _ ⟨c1,rfl,rfl⟩
 generalize hx:partitionEqual BX D a' b' p=R
 obtain⟨mid,E⟩:=R
 obtain⟨m1,m2,hE,hBr,fin⟩:=round_eq Es (partitionEqual_holds BX) (by omega) hp1 hp2 (by omega) hB hc hx
 dsimp only
 conv=>whnf
 apply Aj rfl
 (conv=>whnf);repeat' (first|((first|refine kA ?_|(apply Br.mk<;>intro hc))<;>first|exact hc.elim|conv=>whnf)|refine kB ?_)
 exact hQ _ mid E m1 m2 (by omega) hBr fin
theorem AkS {tl:Env} (hs:len<2^61) {a' b' c p:Nat} {limit h:Int} {wb wp:Bool} {D:Array GR} {K:Env→Am→Prop} {Q:AQ→Env→Am→Prop} (hab:a'+12<b') (hb:b'≤len) (hD:D.size=len) (hB:Below BX a' b' D)
 (hK:∀tl c (E:Array GR),PermIn a' b' D E→K ([(0,.own 1 g 0 len),(1,.int .i64 a'),(2,.int .i64 b'),(3,.int .i64 limit),(4,.fn 56 []),(10,.bool wb),(11,.bool wp),(12,.int .i64 (b'-a':Nat)),(13,.int .i64 p)]++tl) ⟨[Bv,.arr g 6 nn cl (vs GR.av E.toList)],c⟩)
 (hQ:∀c (E:Array GR) env,PermIn a' b' D E→SortedIn BX a' b' E→Q .ret env ⟨[Bv,.arr g 6 nn cl (vs GR.av E.toList)],c⟩):
 vC (Ad tab) (II AhI) ([(0,.own 1 g 0 len),(1,.int .i64 a'),(2,.int .i64 b'),(3,.int .i64 limit),(4,.fn 56 []),(10,.bool wb),(11,.bool wp),(12,.int .i64 (b'-a':Nat)),(13,.int .i64 p),(14,.int .i64 h)]++tl) ⟨[Bv,.arr g 6 nn cl (vs GR.av D.toList)],c⟩ (UE K Q):=by
 (conv=>whnf);repeat' (first|((first|exact hK _ _ _ (permIn_refl _ _ _)|refine kA ?_|(apply Br.mk<;>intro hc))<;>first|exact hc.elim|conv=>whnf)|refine kB ?_)
 refine(AjP hD hb (by omega) hs).mono ?_
 rintro _ _ ⟨c1,rfl,rfl⟩
 have hp:=partialInsertionSort_holds Es D a' b' (by omega) (by omega) hB
 generalize partialInsertionSort BX D a' b'=R at hp
 obtain⟨E,r⟩:=R
 obtain⟨q1,q2⟩:=hp
 dsimp only at q1 q2 ⊢
 conv=>whnf
 apply Aj rfl
 cases r with
 |true=>
  (conv=>whnf);repeat' (first|((first|refine kA ?_|(apply Br.mk<;>intro hc))<;>first|exact hc.elim|conv=>whnf)|refine kB ?_)
  exact hQ _ E _ q1 (q2 rfl)
 |false=>
  (conv=>whnf);repeat' (first|((first|exact hK _ _ _ q1|refine kA ?_|(apply Br.mk<;>intro hc))<;>first|exact hc.elim|conv=>whnf)|refine kB ?_)
theorem AkT {tl:Env} (hs:len<2^61) {a' b' c p:Nat} {limit h:Int} {wb wp:Bool} {D:Array GR} {K:Env→Am→Prop} {Q:AQ→Env→Am→Prop} (hab:a'+12<b') (hb:b'≤len) (hD:D.size=len) (hp1:a'≤p) (hp2:p<b')
 (hK:∀tl c (p:Nat) h (E:Array GR),PermIn a' b' D E→a'≤p→p<b'→K ([(0,.own 1 g 0 len),(1,.int .i64 a'),(2,.int .i64 b'),(3,.int .i64 limit),(4,.fn 56 []),(10,.bool wb),(11,.bool wp),(12,.int .i64 (b'-a':Nat)),(13,.int .i64 p),(14,.int .i64 h)]++tl) ⟨[Bv,.arr g 6 nn cl (vs GR.av E.toList)],c⟩):
 vC (Ad tab) (II (Eo (Eo UL))) ([(0,.own 1 g 0 len),(1,.int .i64 a'),(2,.int .i64 b'),(3,.int .i64 limit),(4,.fn 56 []),(10,.bool wb),(11,.bool wp),(12,.int .i64 (b'-a':Nat)),(13,.int .i64 p),(14,.int .i64 h)]++tl) ⟨[Bv,.arr g 6 nn cl (vs GR.av D.toList)],c⟩ (UE K Q):=by
 (conv=>whnf);repeat' (first|((first|exact hK _ _ _ _ _ (permIn_refl _ _ _) hp1 hp2|refine kA ?_|(apply Br.mk<;>intro hc))<;>first|exact hc.elim|conv=>whnf)|refine kB ?_)
 refine(Amj hD hb (by omega) hs).mono ?_
 rintro _ _ ⟨c1,E,rfl,rfl,q1⟩
 conv=>whnf
 apply Aj rfl
 have e:(b':Int)-1-((p:Int)-a')=((b'-1-(p-a'):Nat):Int):=by omega
 have hK':=fun tl=>hK tl c1 (b'-1-(p-a')) 1 E q1 (by omega) (by omega)
 rw[← e]at hK'
 (conv=>whnf);repeat' (first|((first|exact hK' _|refine kA ?_|(apply Br.mk<;>intro hc))<;>first|exact hc.elim|conv=>whnf)|refine kB ?_)
theorem AkU {tl:Env} (hs:len<2^61) {a' b' c:Nat} {limit:Int} {wb wp:Bool} {D:Array GR} {K:Env→Am→Prop} {Q:AQ→Env→Am→Prop} (hab:a'+12<b') (hb:b'≤len) (hD:D.size=len)
 (hK:∀tl c (p:Nat) h,a'≤p→p<b'→K ([(0,.own 1 g 0 len),(1,.int .i64 a'),(2,.int .i64 b'),(3,.int .i64 limit),(4,.fn 56 []),(10,.bool wb),(11,.bool wp),(12,.int .i64 (b'-a':Nat)),(13,.int .i64 p),(14,.int .i64 h)]++tl) ⟨[Bv,.arr g 6 nn cl (vs GR.av D.toList)],c⟩):
 vC (Ad tab) (II (Eo UL)) ([(0,.own 1 g 0 len),(1,.int .i64 a'),(2,.int .i64 b'),(3,.int .i64 limit),(4,.fn 56 []),(10,.bool wb),(11,.bool wp),(12,.int .i64 (b'-a':Nat))]++tl) ⟨[Bv,.arr g 6 nn cl (vs GR.av D.toList)],c⟩ (UE K Q):=by
 (conv=>whnf);repeat' (first|((first|refine kA ?_|(apply Br.mk<;>intro hc))<;>first|exact hc.elim|conv=>whnf)|refine kB ?_)
 refine(Ami hD hb hab hs).mono ?_
 rintro _ _ ⟨c1,p,h,ob,rfl,rfl,q1,q2⟩
 conv=>whnf
 apply Aj rfl
 (conv=>whnf);repeat' (first|((first|exact hK _ _ _ _ q1 q2|refine kA ?_|(apply Br.mk<;>intro hc))<;>first|exact hc.elim|conv=>whnf)|refine kB ?_)
theorem AkV {tl:Env} (hs:len<2^61) {a' b' c:Nat} {limit:Int} {wb wp:Bool} {D:Array GR} {K:Env→Am→Prop} {Q:AQ→Env→Am→Prop} (hab:a'+12<b') (hb:b'≤len) (hD:D.size=len) (hlim:0<limit)
 (hK:∀tl c wb limit (E:Array GR),0≤limit→limit<2^62→PermIn a' b' D E→K ([(0,.own 1 g 0 len),(1,.int .i64 a'),(2,.int .i64 b'),(3,.int .i64 limit),(4,.fn 56 []),(10,.bool wb),(11,.bool wp),(12,.int .i64 (b'-a':Nat))]++tl) ⟨[Bv,.arr g 6 nn cl (vs GR.av E.toList)],c⟩) (Nb:limit<2^62):
 vC (Ad tab) (II UL) ([(0,.own 1 g 0 len),(1,.int .i64 a'),(2,.int .i64 b'),(3,.int .i64 limit),(4,.fn 56 []),(10,.bool wb),(11,.bool wp),(12,.int .i64 (b'-a':Nat))]++tl) ⟨[Bv,.arr g 6 nn cl (vs GR.av D.toList)],c⟩ (UE K Q):=by
 cases wb with
 |true=>(conv=>whnf);repeat' (first|((first|exact hK _ _ _ _ _ (by omega) (by omega) (permIn_refl _ _ _)|refine kA ?_|(apply Br.mk<;>intro hc))<;>first|exact hc.elim|conv=>whnf)|refine kB ?_)
 |false=>
  (conv=>whnf);repeat' (first|((first|refine kA ?_|(apply Br.mk<;>intro hc))<;>first|exact hc.elim|conv=>whnf)|refine kB ?_)
  refine(Aml hD hb hab hs).mono ?_
  rintro _ _ ⟨c1,E,ob,rfl,rfl,q1⟩
  conv=>whnf
  apply Aj rfl
  (conv=>whnf);repeat' (first|((first|exact hK _ _ _ _ _ (by omega) (by omega) q1|refine kA ?_|(apply Br.mk<;>intro hc))<;>first|exact hc.elim|conv=>whnf)|refine kB ?_)
theorem AkW {a' b' c:Nat} {limit:Int} {wb wp:Bool} {D:Array GR} {K:Env→Am→Prop} {Q:AQ→Env→Am→Prop} (hs:len<2^61) (hab:a'≤b') (hb:b'≤len)
 (hK:∀tl,K ([(0,.own 1 g 0 len),(1,.int .i64 a'),(2,.int .i64 b'),(3,.int .i64 limit),(4,.fn 56 []),(10,.bool wb),(11,.bool wp),(12,.int .i64 (b'-a':Nat))]++tl) ⟨[Bv,.arr g 6 nn cl (vs GR.av D.toList)],c⟩):
 vC (Ad tab) (II (N7 l119_0_b)) [(0,.own 1 g 0 len),(1,.int .i64 a'),(2,.int .i64 b'),(3,.int .i64 limit),(4,.fn 56 []),(10,.bool wb),(11,.bool wp)] ⟨[Bv,.arr g 6 nn cl (vs GR.av D.toList)],c⟩ (UE K Q):=by
 rw[show ((b'-a':Nat):Int)=(b':Int)-a' by omega]at hK
 (conv=>whnf);repeat' (first|((first|exact hK []|refine kA ?_|(apply Br.mk<;>intro hc))<;>first|exact hc.elim|conv=>whnf)|refine kB ?_)
theorem AkX {tl:Env} (hs:len<2^61) {a' b' c:Nat} {limit:Int} {wb wp:Bool} {D:Array GR} {K:Env→Am→Prop} {Q:AQ→Env→Am→Prop} (hab:a'≤b') (hb:b'≤len) (hD:D.size=len)
 (hK:∀tl c,a'+12<b'→K ([(0,.own 1 g 0 len),(1,.int .i64 a'),(2,.int .i64 b'),(3,.int .i64 limit),(4,.fn 56 []),(10,.bool wb),(11,.bool wp),(12,.int .i64 (b'-a':Nat))]++tl) ⟨[Bv,.arr g 6 nn cl (vs GR.av D.toList)],c⟩)
 (hQ:∀c (E:Array GR) env,PermIn a' b' D E→SortedIn BX a' b' E→Q .ret env ⟨[Bv,.arr g 6 nn cl (vs GR.av E.toList)],c⟩):
 vC (Ad tab) (II (Eo (N7 l119_0_b))) ([(0,.own 1 g 0 len),(1,.int .i64 a'),(2,.int .i64 b'),(3,.int .i64 limit),(4,.fn 56 []),(10,.bool wb),(11,.bool wp),(12,.int .i64 (b'-a':Nat))]++tl) ⟨[Bv,.arr g 6 nn cl (vs GR.av D.toList)],c⟩ (UE K Q):=by
 (conv=>whnf);repeat' (first|((first|exact hK _ _ (by omega)|refine kA ?_|(apply Br.mk<;>intro hc))<;>first|exact hc.elim|conv=>whnf)|refine kB ?_)
 refine(Anc hD hb hs (by omega)).mono ?_
 rintro _ _ ⟨c1,rfl,rfl⟩
 conv=>whnf
 apply Aj rfl
 (conv=>whnf);repeat' (first|((first|refine kA ?_|(apply Br.mk<;>intro hc))<;>first|exact hc.elim|conv=>whnf)|refine kB ?_)
 obtain⟨q1,q2⟩:=insertionSort_holds Es D a' b' hab (by omega)
 exact hQ _ _ _ q1 q2
theorem AhK {tl:Env} (hs:len<2^61) {a' b' c:Nat} {limit:Int} {wb wp:Bool} {D:Array GR} {K:Env→Am→Prop} {Q:AQ→Env→Am→Prop} (hab:a'+12<b') (hb:b'≤len) (hD:D.size=len) (hlim:0≤limit)
 (hK:∀tl c,0<limit→K ([(0,.own 1 g 0 len),(1,.int .i64 a'),(2,.int .i64 b'),(3,.int .i64 limit),(4,.fn 56 []),(10,.bool wb),(11,.bool wp),(12,.int .i64 (b'-a':Nat))]++tl) ⟨[Bv,.arr g 6 nn cl (vs GR.av D.toList)],c⟩)
 (hQ:∀c (E:Array GR) env,PermIn a' b' D E→SortedIn BX a' b' E→Q .ret env ⟨[Bv,.arr g 6 nn cl (vs GR.av E.toList)],c⟩):
 vC (Ad tab) (II (Eo (Eo (N7 l119_0_b)))) ([(0,.own 1 g 0 len),(1,.int .i64 a'),(2,.int .i64 b'),(3,.int .i64 limit),(4,.fn 56 []),(10,.bool wb),(11,.bool wp),(12,.int .i64 (b'-a':Nat))]++tl) ⟨[Bv,.arr g 6 nn cl (vs GR.av D.toList)],c⟩ (UE K Q):=by
 (conv=>whnf);repeat' (first|((first|exact hK _ _ (by omega)|refine kA ?_|(apply Br.mk<;>intro hc))<;>first|exact hc.elim|conv=>whnf)|refine kB ?_)
 refine(AkY hD hb hs (by omega)).mono ?_
 rintro _ _ ⟨c1,rfl,rfl⟩
 conv=>whnf
 apply Aj rfl
 (conv=>whnf);repeat' (first|((first|refine kA ?_|(apply Br.mk<;>intro hc))<;>first|exact hc.elim|conv=>whnf)|refine kB ?_)
 obtain⟨q1,q2⟩:=heapSort_holds Es D a' b' (by omega) (by omega)
 exact hQ _ _ _ q1 q2
theorem AhL (hs:len<2^61) (ih:∀x y,y-x<b-a→Abg Bv g len nn cl x y) {a' b' c:Nat} {limit:Int} {wb wp:Bool} {D:Array GR} (hab:a'≤b') (hb:b'≤len) (hle:b'-a'≤b-a) (hlim:0≤limit) (Nb:limit<2^62) (hD:D.size=len) (hB:Below BX a' b' D)
 (hR:∀R,PermIn a' b' D R→SortedIn BX a' b' R→PermIn a b d R∧SortedIn BX a b R):
 vC (Ad tab) (N7 l119_0_b) [(0,.own 1 g 0 len),(1,.int .i64 a'),(2,.int .i64 b'),(3,.int .i64 limit),(4,.fn 56 []),(10,.bool wb),(11,.bool wp)] ⟨[Bv,.arr g 6 nn cl (vs GR.av D.toList)],c⟩ (VR Bv g len nn cl a b d (b'-a')):=by
 have hret:∀c (E:Array GR) env,PermIn a b d E→SortedIn BX a b E→VR Bv g len nn cl a b d (b'-a') .ret env ⟨[Bv,.arr g 6 nn cl (vs GR.av E.toList)],c⟩:=by
  intro c E env h1 h2
  unfold VR
  conv=>whnf
  apply Aj rfl
  exact⟨_,E,rfl,rfl,h1,h2⟩
 refine Me (a:=II (N7 l119_0_b)) (b:=Eo (N7 l119_0_b)) (AkW hs hab hb fun tl1=>?_)
 refine Me (a:=II (Eo (N7 l119_0_b))) (b:=Eo (Eo (N7 l119_0_b))) (AkX hs hab hb hD (fun tl2 c2 h12=>?_) fun c E env h1 h2=>hret c E env (hR E h1 h2).1 (hR E h1 h2).2)
 refine Me (a:=II (Eo (Eo (N7 l119_0_b)))) (b:=UL) (AhK hs h12 hb hD hlim (fun tl3 c3 hl0=>?_) fun c E env h1 h2=>hret c E env (hR E h1 h2).1 (hR E h1 h2).2)
 refine Me (a:=II UL) (b:=Eo UL) (AkV hs h12 hb hD hl0 (fun tl4 c4 wb4 Ape E4 hl4 Ane p4=>?_) Nb)
 have hD4:E4.size=len:=by rw[p4.1,hD]
 refine Me (a:=II (Eo UL)) (b:=Eo (Eo UL)) (AkU hs h12 hb hD4 fun tl5 c5 p h hp1 hp2=>?_)
 refine Me (a:=II (Eo (Eo UL))) (b:=AhI) (AkT hs h12 hb hD4 hp1 hp2 fun tl6 c6 p6 h6 E6 q6 Anf Ang=>?_)
 have p6':=permIn_trans _ _ _ _ _ p4 q6
 have hD6:E6.size=len:=by rw[p6'.1,hD]
 have hB6:=hB.perm (by omega) p6'
 refine Me (a:=II AhI) (b:=AhJ) (AkS hs h12 hb hD6 hB6 (fun tl7 c7 E7 q7=>?_) fun c E env h1 h2=>hret c E env (hR E (permIn_trans _ _ _ _ _ p6' h1) h2).1 (hR E (permIn_trans _ _ _ _ _ p6' h1) h2).2)
 have p7:=permIn_trans _ _ _ _ _ p6' q7
 have hD7:E7.size=len:=by rw[p7.1,hD]
 have hB7:=hB.perm (by omega) p7
 have hR7:∀R,PermIn a' b' E7 R→SortedIn BX a' b' R→PermIn a b d R∧SortedIn BX a b R:=fun R h1 h2=>hR R (permIn_trans _ _ _ _ _ p7 h1) h2
 refine Me (a:=II AhJ) (b:=Anb) (AkR hs h12 hb hD7 hB7 Anf Ang (fun tl8=>AkQ hs ih h12 hb hle hl4 Ane hD7 hB7 hR7 Anf Ang) fun c' mid E m1 m2 hE hBE fin=>?_)
 unfold VR
 conv=>whnf
 exact again.mk ⟨_,by omega,mid,b',_,Ape,_,_,E,rfl,by omega,hb,by omega,hl4,Ane,hE,hBE,fun R h1 h2=>hR7 R (fin R h1 h2).1 (fin R h1 h2).2,rfl,rfl⟩
end
theorem Ani {Bv:Obj} {g len:Nat} {nn cl:Bool} (hs:len<2^61):∀n a b,b-a≤n→Abg Bv g len nn cl a b:=by
 intro n
 induction n using Nat.strongRecOn with
 |ind n IH=>
  intro a b hn
  have ih:∀x y,y-x<b-a→Abg Bv g len nn cl x y:=fun x y h=>IH (y-x) (by omega) x y (Nat.le_refl _)
  clear IH hn
  intro c limit d hd hb hab hlim Nb hB
  refine Ai rfl rfl ?_
  (conv=>whnf);repeat' (first|((first|refine kA ?_|(apply Br.mk<;>intro hc))<;>first|exact hc.elim|conv=>whnf)|refine kB ?_)
  refine Ag (AiS Bv g len nn cl a b d) ?_ _ _ _ ⟨a,b,_,limit,true,true,d,rfl,hab,hb,Nat.le_refl _,hlim,Nb,hd,hB,fun R h1 h2=>⟨h1,h2⟩,rfl,rfl⟩
  rintro _ _ _ ⟨a',b',c,limit,wb,wp,D,rfl,hab',hb',hle,hlim,Nb,hD,hB',hR,rfl,rfl⟩
  refine⟨rfl,?_⟩
  exact AhL hs ih hab' hb' hle hlim Nb hD hB' hR
theorem AgL {Bv:Obj} {g len c:Nat} {nn cl:Bool} {L:List GR} (hl:L.length=len) (hs:len<2^61) {limit:Int} (h0:0≤limit) (h1:limit<2^62):
 Ar (Ad tab) 119 [.own 1 g 0 len,.int .i64 0,.int .i64 len,.int .i64 limit,.fn 56 []] ⟨[Bv,.arr g 6 nn cl (vs GR.av L)],c⟩ fun out s'=>∃c' W,out=.ok (.BD [])∧s'=⟨[Bv,.arr g 6 nn cl (vs GR.av W)],c'⟩∧W.Perm L∧W.Pairwise (fun x y=>BX y x=false):=by
 have:=Ani (Bv:=Bv) (g:=g) (nn:=nn) (cl:=cl) hs len 0 len (by omega) c limit L.toArray (by simpa using hl) (Nat.le_refl _) (by omega) h0 h1 (Or.inl rfl)
 refine this.mono ?_
 rintro _ _ ⟨c',D,rfl,rfl,p1,p2⟩
 refine⟨c',D.toList,rfl,rfl,Ags hl p1,AbM (by rw[p1.1];simpa using hl) p2⟩
end
section
open Go.Sort
theorem Aj1 {Bv:Obj} {g len c:Nat} {nn cl:Bool} {L:List GR} (hl:L.length=len) (hs:len<2^61):
 Ar (Ad tab) 55 [.own 1 g 0 len,.fn 56 []] ⟨[Bv,.arr g 6 nn cl (vs GR.av L)],c⟩ fun out s'=>∃c' W,out=.ok (.BD [])∧s'=⟨[Bv,.arr g 6 nn cl (vs GR.av W)],c'⟩∧W.Perm L∧W.Pairwise (fun x y=>BX y x=false):=by
 have hb:bitsLen len≤62:=(bitsLen_le_iff len 62).2 (by omega)
 refine Ai rfl rfl ?_
 (conv=>whnf);repeat' (first|((first|refine wrapN len rfl rfl (by show _<2^64;omega) ?_|apply kE (XL (n:=len) (by omega))|refine kA ?_|(apply Br.mk<;>intro hc))<;>first|exact hc.elim|conv=>whnf)|refine kB ?_)
 refine(AgL hl hs (by omega) (by omega)).mono ?_
 rintro _ _ ⟨c',W,rfl,rfl,h1,h2⟩
 conv=>whnf
 apply Aj rfl
 (conv=>whnf);repeat' (first|((first|refine kA ?_|(apply Br.mk<;>intro hc))<;>first|exact hc.elim|conv=>whnf)|refine kB ?_)
 exact⟨_,W,rfl,rfl,h1,h2⟩
end
section
open Go.Sort
theorem AmG {Bv:Obj} {g len c:Nat} {nn cl:Bool} {d:Array GR} (hl:d.size=len) (hs:len<2^61):
 Ar (Ad tab) 57 [.own 1 g 0 len] ⟨[Bv,.arr g 6 nn cl (vs GR.av d.toList)],c⟩ fun out s'=>∃c' T,out=.ok (.own 1 g 0 (Kw d len).length)∧s'=⟨[Bv,.arr g 6 nn cl (vs GR.av (Kw d len++T))],c'⟩:=by
 have hend:(∀ j,0<j→j<len→¬d[j]! =d[j-1]!)→Kw d len=d.toList:=fun h=>by
  rw[PU len (by omega) h,List.take_of_length_le (by simp[hl])]
 refine Ai rfl rfl ?_
 (conv=>whnf);repeat' (first|((first|refine kA ?_|(apply Br.mk<;>intro hc))<;>first|exact hc.elim|conv=>whnf)|refine kB ?_)
 ·have e:=hend (fun j h0 hj=>absurd h0 (by omega))
  rw[e,Array.length_toList,hl]
  exact⟨_,[],rfl,by rw[List.append_nil]⟩
 refine Ag (fun m env s=>∃(k c:Nat),m=len-k∧0<k∧(∀ j,0<j→j<k→¬d[j]! =d[j-1]!)∧env=[(0,.own 1 g 0 len),(3,.int .i64 k)]∧s=⟨[Bv,.arr g 6 nn cl (vs GR.av d.toList)],c⟩) ?_ _ _ _ ⟨1,c,rfl,by omega,fun j h0 h1=>absurd h0 (by omega),rfl,rfl⟩
 rintro _ _ _ ⟨k,c,rfl,hk0,hk,rfl,rfl⟩
 refine⟨rfl,?_⟩
 (conv=>whnf);repeat' (first|((first|refine Aj (eqR _ _) ?_|refine Aj (neR _ _) ?_|refine Aes (fun hc=>?_) (fun hc=>?_)|refine Aer (fun hc=>?_) (fun hc=>?_)|((with_reducible show Ci _ _ _);refine Hu (k) ?_)|((with_reducible show Ci _ _ _);refine Hu (k-1) ?_)|refine kA ?_|(apply Br.mk<;>intro hc))<;>first|exact hc.elim|conv=>whnf)|refine kB ?_)
 ·have h1:Kw d (k+1)=Kw d k:=Ip hk0 ‹_›
  have h2:Kw d k=d.toList.take k:=PU k (by omega) hk
  obtain⟨k,rfl⟩:∃k',k=k'+1:=⟨k-1,by omega⟩
  refine Ag (fun m env s=>∃(k2 c w:Nat) (E:Array GR),m=len-(k+1)-k2∧0<k2∧k+1+k2≤len∧E.size=len∧w=(Kw d (k+1+k2)).length∧w<k+1+k2∧E.toList.take w=Kw d (k+1+k2)∧(∀ j,k+1+k2≤j+1→j<len→E[j]! =d[j]!)∧env=[(0,.own 1 g 0 len),(3,.int .i64 w),(4,.own 1 g (k+1) (len-(k+1))),(5,.int .i64 k2)]∧s=⟨[Bv,.arr g 6 nn cl (vs GR.av E.toList)],c⟩) ?_ _ _ _ ⟨1,_,k+1,d,rfl,by omega,by omega,hl,by rw[h1,h2];simp;omega,by omega,by rw[h1,h2],fun j _ _=>rfl,rfl,rfl⟩
  rintro _ _ _ ⟨k2,c,w,E,rfl,hk2,hkl,hE,hw,hwk,hW,YN,rfl,rfl⟩
  refine⟨rfl,?_⟩
  (conv=>whnf);repeat' (first|((first|refine Aj (eqR _ _) ?_|refine Aj (neR _ _) ?_|refine Aes (fun hc=>?_) (fun hc=>?_)|refine Aer (fun hc=>?_) (fun hc=>?_)|(apply Af;(· exact nPn (k+1+k2) (by omega) (by first|omega|(simp;omega))))|(apply Af;(· exact nPn (k+1+k2-1) (by omega) (by first|omega|(simp;omega))))|((with_reducible show Ci _ _ _);refine Hu (w) ?_)|((with_reducible show eqK _ _);refine NJ BQ (w) ?_)|refine kA ?_|(apply Br.mk<;>intro hc))<;>first|exact hc.elim|conv=>whnf)|refine kB ?_)
  ·have e1:=YN (k+1+k2) (by omega) (by omega)
   have e2:=YN (k+1+k2-1) (by omega) (by omega)
   rw[e1,e2]at hc
   exact again.mk ⟨_,by omega,k2+1,_,w,E,rfl,by omega,by omega,hE,by rw[hw,←Ip (d:=d) (n:=k+1+k2) (by omega) hc];rfl,by omega,by rw[hW,←Ip (d:=d) (n:=k+1+k2) (by omega) hc];rfl,fun j h1 h2=>YN j (by omega) h2,rfl,rfl⟩
  ·have e1:=YN (k+1+k2) (by omega) (by omega)
   have e2:=YN (k+1+k2-1) (by omega) (by omega)
   rw[e1,e2]at hc
   have e3:Kw d (k+1+(k2+1))=Kw d (k+1+k2)++[d[k+1+k2]!]:=ML fun _=>hc
   refine again.mk ⟨_,by omega,k2+1,_,w+1,E.setIfInBounds w E[k+1+k2]!,rfl,by omega,by omega,by simpa using hE,by rw[e3,List.length_append,←hw];rfl,by omega,?_,fun j h1 h2=>?_,rfl,rfl⟩
   ·rw[Array.toList_setIfInBounds,List.take_succ_eq_append_getElem (by simp;omega),e3,←hW,e1]
    simp[List.take_set_of_le]
   ·rw[← YN j (by omega) h2,getElem!_pos _ j (by simp;omega),getElem!_pos E j (by omega),Array.getElem_setIfInBounds_ne (by omega) (by omega)]
  ·have Ake:k+1+k2=len:=by omega
   rw[Ake]at hW hw hwk
   refine Aj (clr (n:=len-w) rfl rfl (by simp;omega) (by omega)) ?_
   have e4:List.take (Int.toNat (w:Int)) (vs GR.av E.toList)=vs GR.av (Kw d len++[]):=by
        rw[List.append_nil,←hW];simp[vs,List.map_take]
   (conv=>whnf);repeat' (first|((first|refine kA ?_|(apply Br.mk<;>intro hc))<;>first|exact hc.elim|conv=>whnf)|refine kB ?_)
   refine⟨c,[],by rw[← hw];rfl,?_⟩
   rw[← e4]
   rfl
 ·exact again.mk ⟨_,by omega,k+1,_,rfl,by omega,fun j h0 hj=>by
   rcases Nat.lt_or_ge j k with h|h
   ·exact hk j h0 h
   ·obtain rfl:j=k:=by omega
    first|exact hc|assumption,rfl,rfl⟩
 ·have e:=hend (fun j h0 hj=>hk j h0 (by omega))
  rw[e,Array.length_toList,hl]
  exact⟨_,[],rfl,by rw[List.append_nil]⟩
end
section
open Go.Sort
def tl (l:List GR) (m:GM):List GR:=(l.filter fun r=>decide (¬ J5 r m)).map (D9 · m)
theorem Ag4 {l:List GR} {m:GM} {i:Nat} (h:i<l.length):tl (l.take (i+1)) m=tl (l.take i) m++if J5 l[i] m then[]else[D9 l[i] m]:=by
 unfold tl
 rw[List.take_succ_eq_append_getElem h,List.filter_append,List.map_append]
 by_cases e:J5 l[i] m<;>simp[e]
theorem AcM {l:List GR} {m:GM} {y:GR}:y∈tl l m↔∃r∈l,¬J5 r m∧y=D9 r m:=by
 unfold tl
 simp only[List.mem_map,List.mem_filter,decide_eq_true_eq]
 constructor
 ·rintro⟨r,⟨h1,h2⟩,rfl⟩;exact⟨r,h1,h2,rfl⟩
 ·rintro⟨r,h1,h2,rfl⟩;exact⟨r,⟨h1,h2⟩,rfl⟩
theorem AoD {W:List GR} (hs:W.Pairwise (fun x y=>BX y x=false)):(Kw W.toArray W.length).Pairwise (fun x y=>BX x y=true)∧∀x,x∈Kw W.toArray W.length↔x∈W:=by
 constructor
 ·refine ZH Es Aas ?_ W.length (by simp)
  intro i j h0 hij hj
  simp only[List.size_toArray]at hj
  rw[getElem!_pos _ j (by simpa using hj),getElem!_pos _ i (by simp;omega)]
  simp only[List.getElem_toArray]
  exact List.pairwise_iff_getElem.1 hs i j (by omega) hj hij
 ·intro x
  rw[PO W.length (by simp)]
  simp
noncomputable def IK (l:List GR) (m:GM):Int:=by
 classical exact if EW m≠0 then EW m else if¬Du l then 19 else if m.k=6 then TU l m.r else if m.k=7 then Q7 l m.r else 0
def LH (l:List GR) (m:GM) (y:GR):Prop:=if m.k=6 then y∈l∨y=m.r else if m.k=7 then y∈l∧y≠m.r else y∈tl l m
theorem Yc {e:Int} {M:GR→Prop} {v:AV} (h:Ab6 e M v):∃b W,v=.BD [.sl b (vs GR.av W),.int .i64 e]:=by
 by_cases h0:e=0
 ·obtain⟨b,W,rfl,_⟩:=h.2 h0
  exact⟨b,W,by rw[h0]⟩
 ·exact⟨false,[],h.1 h0⟩
theorem Akc {l:List GR} {nn:Bool} {m:GM} (hl:l.length≤40) {c:Nat} {ln:Nat} (hln:ln=l.length) {Q:AQ→Env→Am→Prop}
 (hQ:∀c' g b n tl0,n=(tl l m).length→n≤40→(b=false→tl l m=[])→Q (.exit 1) ([(3,.ref 0 0 0 0),(7,.own 1 g 0 n)]++tl0) ⟨[.arr 0 15 true true [m.av],.arr g 6 b true (vs GR.av (tl l m))],c'⟩):
 Run (Ad tab) (.loop l24_0_h l24_0_b) [(3,.ref 0 0 0 0),(7,.own 1 1 0 0),(38,.sl nn (vs GR.av l)),(39,.int .i64 ln),(40,.int .i64 0)] ⟨[.arr 0 15 true true [m.av],.arr 1 6 false true []],c⟩ Q:=by
 subst hln
 refine Ag (fun z env s=>∃(i n g c:Nat) (b:Bool) (L:List GR),z=l.length-i∧i≤l.length∧L=tl (l.take i) m∧n=L.length∧L.length≤i∧(b=false→L=[])∧env=[(3,.ref 0 0 0 0),(7,.own 1 g 0 n),(38,.sl nn (vs GR.av l)),(39,.int .i64 l.length),(40,.int .i64 i)]∧s=⟨[.arr 0 15 true true [m.av],.arr g 6 b true (vs GR.av L)],c⟩) ?_ _ _ _ ⟨0,0,_,_,_,[],rfl,by omega,by simp[tl],rfl,by simp,fun _=>rfl,rfl,rfl⟩
 rintro _ _ _ ⟨i,n,g,c,b,L,rfl,hi,hL,hn,hLl,hfl,rfl,rfl⟩
 refine⟨rfl,?_⟩
 by_cases hlt:i<l.length
 ·have hs:=Ag4 (m:=m) hlt
  rw[← hL]at hs
  have ht:=Amm (r:=l[i]) (m:=m)
  by_cases hg:J5 l[i] m
  ·rw[decide_eq_false (not_not_intro hg)]at ht
   rw[if_pos hg,List.append_nil]at hs
   (conv=>whnf);repeat' (first|((first|apply kE ht|refine kA ?_|(apply Br.mk<;>intro hc))<;>first|exact hc.elim|conv=>whnf)|refine kB ?_)
   all_goals first
        |exact again.mk ⟨_,by omega,i+1,_,_,_,_,_,rfl,by omega,hs.symm,hn,by omega,hfl,rfl,rfl⟩
  ·rw[decide_eq_true hg]at ht
   rw[if_neg hg]at hs
   (conv=>whnf);repeat' (first|((first|apply kE ht|refine AdD (x:=D9 l[i] m) BQ hn (by omega) ?_|refine kA ?_|(apply Br.mk<;>intro hc))<;>first|exact hc.elim|conv=>whnf)|refine kB ?_)
   all_goals first
        |exact again.mk ⟨_,by omega,i+1,_,_,_,_,_,rfl,by omega,hs.symm,by simp,by simp;omega,fun h=>Bool.noConfusion h,rfl,rfl⟩
 ·rw[List.take_of_length_le (by omega)]at hL
  subst hL
  (conv=>whnf);repeat' (first|((first|refine kA ?_|(apply Br.mk<;>intro hc))<;>first|exact hc.elim|conv=>whnf)|refine kB ?_)
  all_goals first
   |exact hQ _ _ _ _ _ hn (by omega) hfl
set_option maxHeartbeats 2000000 in
theorem AcO {l:List GR} {nn:Bool} {m:GM} (hnn:nn=false→l=[]) (hl:l.length<2^61) (hok:∀r∈l,r.ok) (hm:m.ok):Ae (Ad tab) 24 [.sl nn (vs GR.av l),m.av] (fun v=>Ab6 (IK l m) (LH l m) v∧TV v):=by
 have hM:=Ajd hm
 have hv:=Agi (nn:=nn) (l:=l) (by omega) hok
 by_cases h1:EW m=0
 case neg=>
  refine Ac rfl rfl ?_
  (conv=>whnf);repeat' (first|((first|apply kE hM|refine kA ?_|(apply Br.mk<;>intro hc))<;>first|exact hc.elim|conv=>whnf)|refine kB ?_)
  all_goals first|exact⟨Ll (by unfold IK;simp[h1]) (by omega),PS⟩|omega
 rw[h1]at hM
 by_cases h2:Du l
 case neg=>
  rw[decide_eq_false h2]at hv
  refine Ac rfl rfl ?_
  (conv=>whnf);repeat' (first|((first|apply kE hM|apply kE hv|refine kA ?_|(apply Br.mk<;>intro hc))<;>first|exact hc.elim|conv=>whnf)|refine kB ?_)
  all_goals first|exact⟨Ll (by unfold IK;simp[h1,h2]) (by omega),PS⟩|omega
 rw[decide_eq_true h2]at hv
 by_cases k6:m.k=6
 ·obtain⟨v,ho,hca⟩:=(AmF (nn:=nn) (x:=m.r) hnn hl hok hm.2.2.2.2.2).KI
  obtain⟨b,W,rfl⟩:=Yc ho.1
  have e1:IK l m=TU l m.r:=by unfold IK;simp[h1,h2,k6]
  have e2:LH l m=fun y=>y∈l∨y=m.r:=by funext y;unfold LH;simp[k6]
  rw[e1,e2]
  refine Ac rfl rfl ?_
  (conv=>whnf);repeat' (first|((first|apply kE hM|apply kE hv|apply kE hca|refine kA ?_|(apply Br.mk<;>intro hc))<;>first|exact hc.elim|conv=>whnf)|refine kB ?_)
  all_goals first|exact ho|omega
 by_cases k7:m.k=7
 ·obtain⟨v,ho,hca⟩:=(Akd (nn:=nn) (x:=m.r) hnn hl hok hm.2.2.2.2.2).KI
  obtain⟨b,W,rfl⟩:=Yc ho.1
  have e1:IK l m=Q7 l m.r:=by unfold IK;simp[h1,h2,k7]
  have e2:LH l m=fun y=>y∈l∧y≠m.r:=by funext y;unfold LH;simp[k7]
  rw[e1,e2]
  refine Ac rfl rfl ?_
  (conv=>whnf);repeat' (first|((first|apply kE hM|apply kE hv|apply kE hca|refine kA ?_|(apply Br.mk<;>intro hc))<;>first|exact hc.elim|conv=>whnf)|refine kB ?_)
  all_goals first|exact ho|omega
 have e1:IK l m=0:=by unfold IK;simp[h1,h2,k6,k7]
 have e2:LH l m=fun y=>y∈tl l m:=by funext y;unfold LH;simp[k6,k7]
 rw[e2]
 have h40:=h2.1
 refine Ac rfl rfl ?_
 (conv=>whnf);repeat' (first|((first|apply kE hM|apply kE hv|refine kA ?_|(apply Br.mk<;>intro hc))<;>first|exact hc.elim|conv=>whnf)|refine kB ?_)
 all_goals try omega
 refine Akc h40 rfl ?_
 intro c' g b n tl0 hn AqX hfl
 (conv=>whnf);repeat' (first|((first|refine kA ?_|(apply Br.mk<;>intro hc))<;>first|exact hc.elim|conv=>whnf)|refine kB ?_)
 refine(Aj1 hn.symm (by omega)).mono ?_
 rintro _ _ ⟨c2,W,rfl,rfl,hp,hs⟩
 (conv=>whnf);repeat' (first|((first|refine kA ?_|(apply Br.mk<;>intro hc))<;>first|exact hc.elim|conv=>whnf)|refine kB ?_)
 have hWl:W.length=n:=by rw[hp.length_eq,hn]
 refine(AmG (d:=W.toArray) (by simpa using hWl) (by omega)).mono ?_
 rintro _ _ ⟨c3,T,rfl,rfl⟩
 (conv=>whnf);repeat' (first|((first|refine kA ?_|(apply Br.mk<;>intro hc))<;>first|exact hc.elim|conv=>whnf)|refine kB ?_)
 rw[JU,List.drop_zero,List.take_append_of_le_length (Nat.le_refl _),List.take_length]
 rw[← hWl]
 obtain⟨s1,s2⟩:=AoD hs
 refine⟨WJ e1 ⟨b,_,rfl,s1,by have:=AaR W.toArray W.length;omega,fun y=>(s2 y).trans hp.mem_iff⟩,fun b2 V e he hb=>?_⟩
 injection he with he;injection he with h1 h2;injection h1 with h3 h4
 have hW:W=[]:=by rw[hfl (h3.trans hb)]at hp;exact hp.eq_nil
 subst hW
 rw[← h4];rfl
end
theorem Aa3 {g:GG} {m:GN} {L:List GN} (hg:g.ok) (hm:m.ok) (hL:Ln L) (h:∀x∈L,x=m∨x∈g.nodes) {z:Int} (hz:I64 z):(⟨true,L,g.en,g.edges,z,g.DC⟩:GG).ok:=by
 obtain⟨g1,g2,g3,g4,g5,g6,g7,g8⟩:=hg
 refine⟨hL,fun h=>Bool.noConfusion h,fun x hx=>?_,g4,g5,g6,hz,g8⟩
 rcases h x hx with rfl|h
 ·exact hm
 ·exact g3 x h
theorem Aa4 {g:GG} {m:GE} {L:List GE} (hg:g.ok) (hm:m.ok) (hL:Ln L) (h:∀x∈L,x=m∨x∈g.edges) {z:Int} (hz:I64 z):(⟨g.nn,g.nodes,true,L,g.Df,z⟩:GG).ok:=by
 obtain⟨g1,g2,g3,g4,g5,g6,g7,g8⟩:=hg
 refine⟨g1,g2,g3,hL,fun h=>Bool.noConfusion h,fun x hx=>?_,g7,hz⟩
 rcases h x hx with rfl|h
 ·exact hm
 ·exact g6 x h
theorem WZ {α:Type} {lt:Int→Int→Bool} {key:α→Int} {x:α} {l:List α} (hs:Tq lt) (h:l.length≤100000):Ln (BZ lt key x l):=by
 have:=Ia (key:=key) hs (x:=x) (l:=l);unfold Ln;omega
theorem W9 {α:Type} {key:α→List UInt8} {x:α} {l:List α} (h:l.length≤100000):Ln (BZ Op.bytesLess key x l):=by
 have:=Ia (key:=key) AA (x:=x) (l:=l);unfold Ln;omega
theorem Xa {α:Type} {key:α→List UInt8} {x:List UInt8} {l:List α} (h:l.length≤100000):Ln (Gg Op.bytesLess key x l):=by
 have:=FH (key:=key) AA (k:=x) (l:=l);unfold Ln;omega
theorem AeM {n:GN} {b:Bool} {L:List (List UInt8)} {x:List UInt8} (hn:n.ok) (hx:Ln x) (hL:Ln L) (hb:b=false→L=[]) (h:∀y∈L,y=x∨y∈n.labels):(⟨n.id,b,L,n.pn,n.props⟩:GN).ok:=by
 obtain⟨o1,o2,o3,o4,o5,o6,o7⟩:=hn
 refine⟨o1,hL,hb,fun s hs=>?_,o5,o6,o7⟩
 rcases h s hs with rfl|h
 ·exact hx
 ·exact o4 s h
theorem AeN {n:GN} {b:Bool} {L:List GP} {x:GP} (hn:n.ok) (hx:x.ok) (hL:Ln L) (hb:b=false→L=[]) (h:∀y∈L,y=x∨y∈n.props):(⟨n.id,n.ln,n.labels,b,L⟩:GN).ok:=by
 obtain⟨o1,o2,o3,o4,o5,o6,o7⟩:=hn
 refine⟨o1,o2,o3,o4,hL,hb,fun s hs=>?_⟩
 rcases h s hs with rfl|h
 ·exact hx
 ·exact o7 s h
theorem AeO {n:GE} {b:Bool} {L:List GP} {x:GP} (hn:n.ok) (hx:x.ok) (hL:Ln L) (hb:b=false→L=[]) (h:∀y∈L,y=x∨y∈n.props):(⟨n.id,n.fr,n.to,n.ty,b,L⟩:GE).ok:=by
 obtain⟨o1,o2,o3,o4,o5,o6,o7⟩:=hn
 refine⟨o1,o2,o3,o4,hL,hb,fun s hs=>?_⟩
 rcases h s hs with rfl|h
 ·exact hx
 ·exact o7 s h
theorem Aho {z:Int} (h:I64 z):(⟨z,false,[],false,[]⟩:GN).ok:=⟨h,by simp[Ln],fun _=>rfl,by simp,by simp[Ln],fun _=>rfl,by simp⟩
theorem Ahp {z fr to:Int} {nm:List UInt8} (h:I64 z) (h1:I64 fr) (h2:I64 to) (h3:Ln nm):(⟨z,fr,to,nm,false,[]⟩:GE).ok:=⟨h,h1,h2,h3,by simp[Ln],fun _=>rfl,by simp⟩
theorem Ahq {g:GG} (hg:g.ok) {z:Int} (hl:g.nodes.length≤100000):({g with nodes:=Gg DY GN.id z g.nodes}:GG).ok:=by
 obtain⟨g1,g2,g3,g4,g5,g6,g7,g8⟩:=hg
 refine⟨?_,fun h=>?_,fun x hx=>g3 x (CZ hx),g4,g5,g6,g7,g8⟩
 ·have:=FH (key:=GN.id) Aw (k:=z) (l:=g.nodes);unfold Ln;dsimp only;omega
 ·rw[show g.nodes=[] from g2 h];rfl
theorem Ahr {g:GG} (hg:g.ok) {z:Int} (hl:g.edges.length≤100000):({g with edges:=Gg DY GE.id z g.edges}:GG).ok:=by
 obtain⟨g1,g2,g3,g4,g5,g6,g7,g8⟩:=hg
 refine⟨g1,g2,g3,?_,fun h=>?_,fun x hx=>g6 x (CZ hx),g7,g8⟩
 ·have:=FH (key:=GE.id) Aw (k:=z) (l:=g.edges);unfold Ln;dsimp only;omega
 ·rw[show g.edges=[] from g5 h];rfl
theorem Xb {g:GG} {n m:GN} (hg:g.ok) (hl:g.nodes.length≤100000) (hn:n∈g.nodes) (hm:m.ok):({g with nodes:=BZ DY GN.id m g.nodes}:GG).ok:=by
 have hb:g.nn=true:=by
  cases hb:g.nn with
  |true=>rfl
  |false=>have:=hg.2.1 hb;rw[this]at hn;cases hn
 have:=Aa3 hg hm (WZ (key:=GN.id) Aw hl) (fun x hx=>BL Aw hx) hg.2.2.2.2.2.2.1
 rw[← hb]at this
 exact this
theorem AeP {g:GG} {n m:GE} (hg:g.ok) (hl:g.edges.length≤100000) (hn:n∈g.edges) (hm:m.ok):({g with edges:=BZ DY GE.id m g.edges}:GG).ok:=by
 have hb:g.en=true:=by
  cases hb:g.en with
  |true=>rfl
  |false=>have:=hg.2.2.2.2.1 hb;rw[this]at hn;cases hn
 have:=Aa4 hg hm (WZ (key:=GE.id) Aw hl) (fun x hx=>BL Aw hx) hg.2.2.2.2.2.2.2
 rw[← hb]at this
 exact this
theorem Yn {a b:Int} (ha:UG a) (hb:I64 b):I64 (if a+1>b then a+1 else b):=by unfold I64 UG at *;split<;>omega
theorem Af6 {g:GG} {c:GC} (hg:g.ok) (ha:IZ g) (hc:c.ok):(stepG g c).2.ok:=by
 have lN:=ha.lN
 have lE:=ha.lE
 obtain⟨c1,c2,c3,c4,c5,c6⟩:=hc
 unfold stepG
 split
 ·exact hg
 rename_i hk
 have hid:=(AgD (Classical.not_not.1 hk)).2.1
 split
 ·unfold BM
  split
  ·split
   ·exact hg
   split
   ·exact Aa3 hg (Aho c2) (WZ Aw (by omega)) (fun x hx=>BL Aw hx) (Yn hid hg.2.2.2.2.2.2.1)
   ·exact hg
  split
  ·exact hg
  rename_i n hf
  have hn:=List.mem_of_find?_eq_some hf
  have hno:=hg.2.2.1 n hn
  have hA:=ha.aN n hn
  have l1:=hA.lL
  have l2:=hA.lP
  split
  ·split
   ·exact hg
   ·exact Ahq hg (by omega)
  split
  ·split
   ·exact hg
   split
   ·exact Xb hg (by omega) hn (AeM hno c5 (W9 (by omega)) (fun h=>Bool.noConfusion h) (fun y hy=>BL AA hy))
   ·exact hg
  split
  ·split
   ·exact Xb hg (by omega) hn (AeM hno c5 (Xa (by omega)) (fun h=>Bool.noConfusion h) (fun y hy=>.inr (CZ hy)))
   ·exact hg
  split
  ·refine Xb hg (by omega) hn (AeN (x:=⟨c.name,c.v⟩) hno ⟨c5,c6⟩ (Xa (by omega)) (fun h=>?_) (fun y hy=>.inr (CZ hy)))
   rw[show n.props=[] from hno.2.2.2.2.2.1 h];rfl
  split
  ·exact Xb hg (by omega) hn (AeN (x:=⟨c.name,c.v⟩) hno ⟨c5,c6⟩ (W9 (by omega)) (fun h=>Bool.noConfusion h) (fun y hy=>BL AA hy))
  ·exact hg
 ·unfold Di
  split
  ·split
   ·exact hg
   split
   ·split
    ·exact Aa4 hg (Ahp c2 c3 c4 c5) (WZ Aw (by omega)) (fun x hx=>BL Aw hx) (Yn hid hg.2.2.2.2.2.2.2)
    ·exact hg
   ·exact hg
  split
  ·exact hg
  rename_i n hf
  have hn:=List.mem_of_find?_eq_some hf
  have hno:=hg.2.2.2.2.2.1 n hn
  have hA:=ha.aE n hn
  have l2:=hA.lP
  split
  ·exact Ahr hg (by omega)
  split
  ·refine AeP hg (by omega) hn (AeO (x:=⟨c.name,c.v⟩) hno ⟨c5,c6⟩ (Xa (by omega)) (fun h=>?_) (fun y hy=>.inr (CZ hy)))
   rw[show n.props=[] from hno.2.2.2.2.2.1 h];rfl
  split
  ·exact AeP hg (by omega) hn (AeO (x:=⟨c.name,c.v⟩) hno ⟨c5,c6⟩ (W9 (by omega)) (fun h=>Bool.noConfusion h) (fun y hy=>BL AA hy))
  ·exact hg
end AI
end Go.Proofs.YtjijnamhalgamaaGreatDoor
