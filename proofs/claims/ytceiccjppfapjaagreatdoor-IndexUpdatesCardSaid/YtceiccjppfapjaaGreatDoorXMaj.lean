/- Sorting in place (CmpFunc[graphdb/api.Entry]): the whole. A sorted list without its repeated elements. Sorting (slices.SortFunc[[]graphdb/api.Entry,graphdb/api.Entry]), leaving out what repeats (none). Names in a list, increasing strings, labels and properties. What is wrong with labels and properties. Looking for a node among increasing ids. graph.Check: the first error of a graph. -/
import Derived.Test.YtceiccjppfapjaaGreatDoorXMai
import Derived.Test.YtceiccjppfapjaaGreatDoorXPtC
import Derived.Test.YtceiccjppfapjaaGreatDoorXMaf
import Derived.Test.YtceiccjppfapjaaGreatDoorXMae
set_option linter.unusedVariables false
set_option maxRecDepth 4000
namespace Go.Proofs.YtceiccjppfapjaaGreatDoor
namespace AI
section
open Go.Sort
abbrev Zx (BP:Obj) (g len:Nat) (nn cl:Bool) (a b:Nat):Prop:=∀(c:Nat) (limit:Int) (d:Array GX),d.size=len→b≤len→a≤b→0≤limit→limit<2^62→Below BR a b d→
 AA (Ad tab) 226 [.own 1 g 0 len,.int .i64 a,.int .i64 b,.int .i64 limit,.fn 86 []] ⟨[BP,.arr g 8 nn cl (vs GX.av d.toList)],c⟩ fun out s'=>∃c' D,out=.ok (.BL [])∧s'=⟨[BP,.arr g 8 nn cl (vs GX.av D.toList)],c'⟩∧PermIn a b d D∧SortedIn BR a b D
def Eb:Bh→Bh
 | .seq _ b=>b
 |c=>c
def Hu:Bh→Bh
 | .seq a _=>a
 |c=>c
def L8:Bh→Bh
 | .block _ a=>a
 |c=>c
noncomputable def Sz:Bh:=Eb (Eb (Eb (L8 l226_0_b)))
noncomputable def Ae4:Bh:=Eb (Eb (Eb Sz))
noncomputable def Ae5:Bh:=Eb Ae4
noncomputable def Ajo:Bh:=Eb Ae5
abbrev AfJ (BP:Obj) (g len:Nat) (nn cl:Bool) (a b:Nat) (d:Array GX) (m:Nat) (env:Env) (s:Am):Prop:=
 ∃(a' b' c:Nat) (limit:Int) (wb wp:Bool) (D:Array GX),m=b'-a'∧a'≤b'∧b'≤len∧b'-a'≤b-a∧0≤limit∧limit<2^62∧D.size=len∧Below BR a' b' D∧(∀ R,PermIn a' b' D R→SortedIn BR a' b' R→PermIn a b d R∧SortedIn BR a b R)∧
  env=[(0,.own 1 g 0 len),(1,.int .i64 a'),(2,.int .i64 b'),(3,.int .i64 limit),(4,.fn 86 []),(10,.bool wb),(11,.bool wp)]∧s=⟨[BP,.arr g 8 nn cl (vs GX.av D.toList)],c⟩
section
variable {BP:Obj} {g len:Nat} {nn cl:Bool} {a b:Nat} {d:Array GX}
def Ua (BP:Obj) (g len:Nat) (nn cl:Bool) (a b:Nat) (d:Array GX) (m:Nat):AU→Env→Am→Prop:=
 AdK 1 (AfW l226_0_h (again (AfJ BP g len nn cl a b d) m) (AdK 0 (Abc a226 fun out s'=>∃c' D,out=.ok (.BL [])∧s'=⟨[BP,.arr g 8 nn cl (vs GX.av D.toList)],c'⟩∧PermIn a b d D∧SortedIn BR a b D)))
set_option maxHeartbeats 2000000 in
theorem Ahk {tl:Env} (hs:len<2^61) (ih:∀x y,y-x<b-a→Zx BP g len nn cl x y) {a' b' c p:Nat} {limit:Int} {wb wp:Bool} {D:Array GX} (hab:a'+12<b') (hb:b'≤len) (hle:b'-a'≤b-a) (hlim:0≤limit) (KZ:limit<2^62) (hD:D.size=len) (hB:Below BR a' b' D)
 (hR:∀R,PermIn a' b' D R→SortedIn BR a' b' R→PermIn a b d R∧SortedIn BR a b R) (hp1:a'≤p) (hp2:p<b'):
 vC (Ad tab) Ajo ([(0,.own 1 g 0 len),(1,.int .i64 a'),(2,.int .i64 b'),(3,.int .i64 limit),(4,.fn 86 []),(10,.bool wb),(11,.bool wp),(12,.int .i64 (b'-a':Nat)),(13,.int .i64 p)]++tl) ⟨[BP,.arr g 8 nn cl (vs GX.av D.toList)],c⟩ (Ua BP g len nn cl a b d (b'-a')):=by
 unfold Ua
 (conv=>whnf);repeat' (first  |(refine kA ?_;conv=>whnf)|(refine Br.mk (fun hc=>?_) fun hc=>?_<;>first|exact hc.elim|conv=>whnf)|(refine kB ?_))
 refine(Ajm hD hb hp1 hp2 hs).mono ?_
 rintro _ _ ⟨c1,rfl,rfl⟩
 generalize hx:partition BR D a' b' p=R
 obtain⟨mid,ap,E⟩:=R
 obtain⟨m1,m2,hE,hBl,hBr,fl,fr⟩:=round_part H8 (partition_holds BR) hp1 hp2 (by omega) hB hx
 dsimp only
 conv=>whnf
 apply Ah rfl
 (conv=>whnf);repeat' (first|(refine SB (b'-a') 8 (by omega) (by omega) ?_;conv=>whnf)|(refine kA ?_;conv=>whnf)|(refine Br.mk (fun hc=>?_) fun hc=>?_<;>first|exact hc.elim|conv=>whnf)|(refine kB ?_))
 all_goals first
  |(refine (ih a' mid (by omega) _ limit E (by omega) (by omega) m1 hlim KZ hBl).mono ?_
    rintro _ _ ⟨c2,L,rfl,rfl,q1,q2⟩
    obtain⟨hBL,fin⟩:=fl L q1 q2
    conv=>whnf
    apply Ah rfl
    (conv=>whnf);repeat' (first  |(refine kA ?_;conv=>whnf)|(refine Br.mk (fun hc=>?_) fun hc=>?_<;>first|exact hc.elim|conv=>whnf)|(refine kB ?_))
    exact again.mk ⟨_,by omega,mid+1,b',_,limit,_,_,L,rfl,by omega,hb,by omega,hlim,KZ,by rw[q1.1,hE,hD],hBL,fun R h1 h2=>hR R (fin R h1 h2).1 (fin R h1 h2).2,rfl,rfl⟩)
  |(refine (ih (mid+1) b' (by omega) _ limit E (by omega) hb (by omega) hlim KZ hBr).mono ?_
    rintro _ _ ⟨c2,L,rfl,rfl,q1,q2⟩
    obtain⟨hBL,fin⟩:=fr L q1 q2
    conv=>whnf
    apply Ah rfl
    (conv=>whnf);repeat' (first  |(refine kA ?_;conv=>whnf)|(refine Br.mk (fun hc=>?_) fun hc=>?_<;>first|exact hc.elim|conv=>whnf)|(refine kB ?_))
    exact again.mk ⟨_,by omega,a',mid,_,limit,_,_,L,rfl,by omega,by omega,by omega,hlim,KZ,by rw[q1.1,hE,hD],hBL,fun R h1 h2=>hR R (fin R h1 h2).1 (fin R h1 h2).2,rfl,rfl⟩)
theorem Ahl {tl:Env} (hs:len<2^61) {a' b' c p:Nat} {limit:Int} {wb wp:Bool} {D:Array GX} {K:Env→Am→Prop} {Q:AU→Env→Am→Prop} (hab:a'+12<b') (hb:b'≤len) (hD:D.size=len) (hB:Below BR a' b' D) (hp1:a'≤p) (hp2:p<b')
 (hK:∀tl,K ([(0,.own 1 g 0 len),(1,.int .i64 a'),(2,.int .i64 b'),(3,.int .i64 limit),(4,.fn 86 []),(10,.bool wb),(11,.bool wp),(12,.int .i64 (b'-a':Nat)),(13,.int .i64 p)]++tl) ⟨[BP,.arr g 8 nn cl (vs GX.av D.toList)],c⟩)
 (hQ:∀c' mid (E:Array GX),a'<mid→mid≤b'→E.size=len→Below BR mid b' E→(∀ R,PermIn mid b' E R→SortedIn BR mid b' R→PermIn a' b' D R∧SortedIn BR a' b' R)→
   Q (.exit 1) [(0,.own 1 g 0 len),(1,.int .i64 mid),(2,.int .i64 b'),(3,.int .i64 limit),(4,.fn 86 []),(10,.bool wb),(11,.bool wp)] ⟨[BP,.arr g 8 nn cl (vs GX.av E.toList)],c'⟩):
 vC (Ad tab) (Hu Ae5) ([(0,.own 1 g 0 len),(1,.int .i64 a'),(2,.int .i64 b'),(3,.int .i64 limit),(4,.fn 86 []),(10,.bool wb),(11,.bool wp),(12,.int .i64 (b'-a':Nat)),(13,.int .i64 p)]++tl) ⟨[BP,.arr g 8 nn cl (vs GX.av D.toList)],c⟩ (Si K Q):=by
 (conv=>whnf);repeat' (first|exact hK _|((with_reducible show Ce _ _ _);refine He (a'-1) ?_;conv=>whnf)|((with_reducible show Ce _ _ _);refine He (p) ?_;conv=>whnf)|(refine Aa Eu ?_;rintro _ rfl;conv=>whnf)|(refine F5 (fun hc=>?_) (fun hc=>?_)<;>conv=>whnf)|(refine kA ?_;conv=>whnf)|(refine Br.mk (fun hc=>?_) fun hc=>?_<;>first|exact hc.elim|conv=>whnf)|(refine kB ?_))
 refine(Ajg hD hb hp1 hp2 hs).mono ?_
 rintro _ _ ⟨c1,rfl,rfl⟩
 generalize hx:partitionEqual BR D a' b' p=R
 obtain⟨mid,E⟩:=R
 obtain⟨m1,m2,hE,hBr,fin⟩:=round_eq H8 (partitionEqual_holds BR) (by omega) hp1 hp2 (by omega) hB hc hx
 dsimp only
 conv=>whnf
 apply Ah rfl
 (conv=>whnf);repeat' (first  |(refine kA ?_;conv=>whnf)|(refine Br.mk (fun hc=>?_) fun hc=>?_<;>first|exact hc.elim|conv=>whnf)|(refine kB ?_))
 exact hQ _ mid E m1 m2 (by omega) hBr fin
theorem Ahm {tl:Env} (hs:len<2^61) {a' b' c p:Nat} {limit h:Int} {wb wp:Bool} {D:Array GX} {K:Env→Am→Prop} {Q:AU→Env→Am→Prop} (hab:a'+12<b') (hb:b'≤len) (hD:D.size=len) (hB:Below BR a' b' D)
 (hK:∀tl c (E:Array GX),PermIn a' b' D E→K ([(0,.own 1 g 0 len),(1,.int .i64 a'),(2,.int .i64 b'),(3,.int .i64 limit),(4,.fn 86 []),(10,.bool wb),(11,.bool wp),(12,.int .i64 (b'-a':Nat)),(13,.int .i64 p)]++tl) ⟨[BP,.arr g 8 nn cl (vs GX.av E.toList)],c⟩)
 (hQ:∀c (E:Array GX) env,PermIn a' b' D E→SortedIn BR a' b' E→Q .ret env ⟨[BP,.arr g 8 nn cl (vs GX.av E.toList)],c⟩):
 vC (Ad tab) (Hu Ae4) ([(0,.own 1 g 0 len),(1,.int .i64 a'),(2,.int .i64 b'),(3,.int .i64 limit),(4,.fn 86 []),(10,.bool wb),(11,.bool wp),(12,.int .i64 (b'-a':Nat)),(13,.int .i64 p),(14,.int .i64 h)]++tl) ⟨[BP,.arr g 8 nn cl (vs GX.av D.toList)],c⟩ (Si K Q):=by
 (conv=>whnf);repeat' (first|exact hK _ _ _ (permIn_refl _ _ _)|(refine kA ?_;conv=>whnf)|(refine Br.mk (fun hc=>?_) fun hc=>?_<;>first|exact hc.elim|conv=>whnf)|(refine kB ?_))
 refine(Ahg hD hb (by omega) hs).mono ?_
 rintro _ _ ⟨c1,rfl,rfl⟩
 have hp:=partialInsertionSort_holds H8 D a' b' (by omega) (by omega) hB
 generalize partialInsertionSort BR D a' b'=R at hp
 obtain⟨E,r⟩:=R
 obtain⟨q1,q2⟩:=hp
 dsimp only at q1 q2 ⊢
 conv=>whnf
 apply Ah rfl
 cases r with
 |true=>
  (conv=>whnf);repeat' (first  |(refine kA ?_;conv=>whnf)|(refine Br.mk (fun hc=>?_) fun hc=>?_<;>first|exact hc.elim|conv=>whnf)|(refine kB ?_))
  exact hQ _ E _ q1 (q2 rfl)
 |false=>
  (conv=>whnf);repeat' (first|exact hK _ _ _ q1|(refine kA ?_;conv=>whnf)|(refine Br.mk (fun hc=>?_) fun hc=>?_<;>first|exact hc.elim|conv=>whnf)|(refine kB ?_))
theorem Ahn {tl:Env} (hs:len<2^61) {a' b' c p:Nat} {limit h:Int} {wb wp:Bool} {D:Array GX} {K:Env→Am→Prop} {Q:AU→Env→Am→Prop} (hab:a'+12<b') (hb:b'≤len) (hD:D.size=len) (hp1:a'≤p) (hp2:p<b')
 (hK:∀tl c (p:Nat) h (E:Array GX),PermIn a' b' D E→a'≤p→p<b'→K ([(0,.own 1 g 0 len),(1,.int .i64 a'),(2,.int .i64 b'),(3,.int .i64 limit),(4,.fn 86 []),(10,.bool wb),(11,.bool wp),(12,.int .i64 (b'-a':Nat)),(13,.int .i64 p),(14,.int .i64 h)]++tl) ⟨[BP,.arr g 8 nn cl (vs GX.av E.toList)],c⟩):
 vC (Ad tab) (Hu (Eb (Eb Sz))) ([(0,.own 1 g 0 len),(1,.int .i64 a'),(2,.int .i64 b'),(3,.int .i64 limit),(4,.fn 86 []),(10,.bool wb),(11,.bool wp),(12,.int .i64 (b'-a':Nat)),(13,.int .i64 p),(14,.int .i64 h)]++tl) ⟨[BP,.arr g 8 nn cl (vs GX.av D.toList)],c⟩ (Si K Q):=by
 (conv=>whnf);repeat' (first|exact hK _ _ _ _ _ (permIn_refl _ _ _) hp1 hp2|(refine kA ?_;conv=>whnf)|(refine Br.mk (fun hc=>?_) fun hc=>?_<;>first|exact hc.elim|conv=>whnf)|(refine kB ?_))
 refine(AiP hD hb (by omega) hs).mono ?_
 rintro _ _ ⟨c1,E,rfl,rfl,q1⟩
 conv=>whnf
 apply Ah rfl
 have e:(b':Int)-1-((p:Int)-a')=((b'-1-(p-a'):Nat):Int):=by omega
 have hK':=fun tl=>hK tl c1 (b'-1-(p-a')) 1 E q1 (by omega) (by omega)
 rw[← e]at hK'
 (conv=>whnf);repeat' (first|exact hK' _|(refine kA ?_;conv=>whnf)|(refine Br.mk (fun hc=>?_) fun hc=>?_<;>first|exact hc.elim|conv=>whnf)|(refine kB ?_))
theorem Aho {tl:Env} (hs:len<2^61) {a' b' c:Nat} {limit:Int} {wb wp:Bool} {D:Array GX} {K:Env→Am→Prop} {Q:AU→Env→Am→Prop} (hab:a'+12<b') (hb:b'≤len) (hD:D.size=len)
 (hK:∀tl c (p:Nat) h,a'≤p→p<b'→K ([(0,.own 1 g 0 len),(1,.int .i64 a'),(2,.int .i64 b'),(3,.int .i64 limit),(4,.fn 86 []),(10,.bool wb),(11,.bool wp),(12,.int .i64 (b'-a':Nat)),(13,.int .i64 p),(14,.int .i64 h)]++tl) ⟨[BP,.arr g 8 nn cl (vs GX.av D.toList)],c⟩):
 vC (Ad tab) (Hu (Eb Sz)) ([(0,.own 1 g 0 len),(1,.int .i64 a'),(2,.int .i64 b'),(3,.int .i64 limit),(4,.fn 86 []),(10,.bool wb),(11,.bool wp),(12,.int .i64 (b'-a':Nat))]++tl) ⟨[BP,.arr g 8 nn cl (vs GX.av D.toList)],c⟩ (Si K Q):=by
 (conv=>whnf);repeat' (first  |(refine kA ?_;conv=>whnf)|(refine Br.mk (fun hc=>?_) fun hc=>?_<;>first|exact hc.elim|conv=>whnf)|(refine kB ?_))
 refine(AiO hD hb hab hs).mono ?_
 rintro _ _ ⟨c1,p,h,ob,rfl,rfl,q1,q2⟩
 conv=>whnf
 apply Ah rfl
 (conv=>whnf);repeat' (first|exact hK _ _ _ _ q1 q2|(refine kA ?_;conv=>whnf)|(refine Br.mk (fun hc=>?_) fun hc=>?_<;>first|exact hc.elim|conv=>whnf)|(refine kB ?_))
theorem Ahp {tl:Env} (hs:len<2^61) {a' b' c:Nat} {limit:Int} {wb wp:Bool} {D:Array GX} {K:Env→Am→Prop} {Q:AU→Env→Am→Prop} (hab:a'+12<b') (hb:b'≤len) (hD:D.size=len) (hlim:0<limit)
 (hK:∀tl c wb limit (E:Array GX),0≤limit→limit<2^62→PermIn a' b' D E→K ([(0,.own 1 g 0 len),(1,.int .i64 a'),(2,.int .i64 b'),(3,.int .i64 limit),(4,.fn 86 []),(10,.bool wb),(11,.bool wp),(12,.int .i64 (b'-a':Nat))]++tl) ⟨[BP,.arr g 8 nn cl (vs GX.av E.toList)],c⟩) (KZ:limit<2^62):
 vC (Ad tab) (Hu Sz) ([(0,.own 1 g 0 len),(1,.int .i64 a'),(2,.int .i64 b'),(3,.int .i64 limit),(4,.fn 86 []),(10,.bool wb),(11,.bool wp),(12,.int .i64 (b'-a':Nat))]++tl) ⟨[BP,.arr g 8 nn cl (vs GX.av D.toList)],c⟩ (Si K Q):=by
 cases wb with
 |true=>(conv=>whnf);repeat' (first|exact hK _ _ _ _ _ (by omega) (by omega) (permIn_refl _ _ _)|(refine kA ?_;conv=>whnf)|(refine Br.mk (fun hc=>?_) fun hc=>?_<;>first|exact hc.elim|conv=>whnf)|(refine kB ?_))
 |false=>
  (conv=>whnf);repeat' (first  |(refine kA ?_;conv=>whnf)|(refine Br.mk (fun hc=>?_) fun hc=>?_<;>first|exact hc.elim|conv=>whnf)|(refine kB ?_))
  refine(AiQ hD hb hab hs).mono ?_
  rintro _ _ ⟨c1,E,ob,rfl,rfl,q1⟩
  conv=>whnf
  apply Ah rfl
  (conv=>whnf);repeat' (first|exact hK _ _ _ _ _ (by omega) (by omega) q1|(refine kA ?_;conv=>whnf)|(refine Br.mk (fun hc=>?_) fun hc=>?_<;>first|exact hc.elim|conv=>whnf)|(refine kB ?_))
theorem Ahq {a' b' c:Nat} {limit:Int} {wb wp:Bool} {D:Array GX} {K:Env→Am→Prop} {Q:AU→Env→Am→Prop} (hs:len<2^61) (hab:a'≤b') (hb:b'≤len)
 (hK:∀tl,K ([(0,.own 1 g 0 len),(1,.int .i64 a'),(2,.int .i64 b'),(3,.int .i64 limit),(4,.fn 86 []),(10,.bool wb),(11,.bool wp),(12,.int .i64 (b'-a':Nat))]++tl) ⟨[BP,.arr g 8 nn cl (vs GX.av D.toList)],c⟩):
 vC (Ad tab) (Hu (L8 l226_0_b)) [(0,.own 1 g 0 len),(1,.int .i64 a'),(2,.int .i64 b'),(3,.int .i64 limit),(4,.fn 86 []),(10,.bool wb),(11,.bool wp)] ⟨[BP,.arr g 8 nn cl (vs GX.av D.toList)],c⟩ (Si K Q):=by
 rw[show ((b'-a':Nat):Int)=(b':Int)-a' by omega]at hK
 (conv=>whnf);repeat' (first|exact hK []|(refine kA ?_;conv=>whnf)|(refine Br.mk (fun hc=>?_) fun hc=>?_<;>first|exact hc.elim|conv=>whnf)|(refine kB ?_))
theorem Ahr {tl:Env} (hs:len<2^61) {a' b' c:Nat} {limit:Int} {wb wp:Bool} {D:Array GX} {K:Env→Am→Prop} {Q:AU→Env→Am→Prop} (hab:a'≤b') (hb:b'≤len) (hD:D.size=len)
 (hK:∀tl c,a'+12<b'→K ([(0,.own 1 g 0 len),(1,.int .i64 a'),(2,.int .i64 b'),(3,.int .i64 limit),(4,.fn 86 []),(10,.bool wb),(11,.bool wp),(12,.int .i64 (b'-a':Nat))]++tl) ⟨[BP,.arr g 8 nn cl (vs GX.av D.toList)],c⟩)
 (hQ:∀c (E:Array GX) env,PermIn a' b' D E→SortedIn BR a' b' E→Q .ret env ⟨[BP,.arr g 8 nn cl (vs GX.av E.toList)],c⟩):
 vC (Ad tab) (Hu (Eb (L8 l226_0_b))) ([(0,.own 1 g 0 len),(1,.int .i64 a'),(2,.int .i64 b'),(3,.int .i64 limit),(4,.fn 86 []),(10,.bool wb),(11,.bool wp),(12,.int .i64 (b'-a':Nat))]++tl) ⟨[BP,.arr g 8 nn cl (vs GX.av D.toList)],c⟩ (Si K Q):=by
 (conv=>whnf);repeat' (first|exact hK _ _ (by omega)|(refine kA ?_;conv=>whnf)|(refine Br.mk (fun hc=>?_) fun hc=>?_<;>first|exact hc.elim|conv=>whnf)|(refine kB ?_))
 refine(AhL hD hb hs (by omega)).mono ?_
 rintro _ _ ⟨c1,rfl,rfl⟩
 conv=>whnf
 apply Ah rfl
 (conv=>whnf);repeat' (first  |(refine kA ?_;conv=>whnf)|(refine Br.mk (fun hc=>?_) fun hc=>?_<;>first|exact hc.elim|conv=>whnf)|(refine kB ?_))
 obtain⟨q1,q2⟩:=insertionSort_holds H8 D a' b' hab (by omega)
 exact hQ _ _ _ q1 q2
theorem Ae6 {tl:Env} (hs:len<2^61) {a' b' c:Nat} {limit:Int} {wb wp:Bool} {D:Array GX} {K:Env→Am→Prop} {Q:AU→Env→Am→Prop} (hab:a'+12<b') (hb:b'≤len) (hD:D.size=len) (hlim:0≤limit)
 (hK:∀tl c,0<limit→K ([(0,.own 1 g 0 len),(1,.int .i64 a'),(2,.int .i64 b'),(3,.int .i64 limit),(4,.fn 86 []),(10,.bool wb),(11,.bool wp),(12,.int .i64 (b'-a':Nat))]++tl) ⟨[BP,.arr g 8 nn cl (vs GX.av D.toList)],c⟩)
 (hQ:∀c (E:Array GX) env,PermIn a' b' D E→SortedIn BR a' b' E→Q .ret env ⟨[BP,.arr g 8 nn cl (vs GX.av E.toList)],c⟩):
 vC (Ad tab) (Hu (Eb (Eb (L8 l226_0_b)))) ([(0,.own 1 g 0 len),(1,.int .i64 a'),(2,.int .i64 b'),(3,.int .i64 limit),(4,.fn 86 []),(10,.bool wb),(11,.bool wp),(12,.int .i64 (b'-a':Nat))]++tl) ⟨[BP,.arr g 8 nn cl (vs GX.av D.toList)],c⟩ (Si K Q):=by
 (conv=>whnf);repeat' (first|exact hK _ _ (by omega)|(refine kA ?_;conv=>whnf)|(refine Br.mk (fun hc=>?_) fun hc=>?_<;>first|exact hc.elim|conv=>whnf)|(refine kB ?_))
 refine(AfL hD hb hs (by omega)).mono ?_
 rintro _ _ ⟨c1,rfl,rfl⟩
 conv=>whnf
 apply Ah rfl
 (conv=>whnf);repeat' (first  |(refine kA ?_;conv=>whnf)|(refine Br.mk (fun hc=>?_) fun hc=>?_<;>first|exact hc.elim|conv=>whnf)|(refine kB ?_))
 obtain⟨q1,q2⟩:=heapSort_holds H8 D a' b' (by omega) (by omega)
 exact hQ _ _ _ q1 q2
theorem Ae7 (hs:len<2^61) (ih:∀x y,y-x<b-a→Zx BP g len nn cl x y) {a' b' c:Nat} {limit:Int} {wb wp:Bool} {D:Array GX} (hab:a'≤b') (hb:b'≤len) (hle:b'-a'≤b-a) (hlim:0≤limit) (KZ:limit<2^62) (hD:D.size=len) (hB:Below BR a' b' D)
 (hR:∀R,PermIn a' b' D R→SortedIn BR a' b' R→PermIn a b d R∧SortedIn BR a b R):
 vC (Ad tab) (L8 l226_0_b) [(0,.own 1 g 0 len),(1,.int .i64 a'),(2,.int .i64 b'),(3,.int .i64 limit),(4,.fn 86 []),(10,.bool wb),(11,.bool wp)] ⟨[BP,.arr g 8 nn cl (vs GX.av D.toList)],c⟩ (Ua BP g len nn cl a b d (b'-a')):=by
 have hret:∀c (E:Array GX) env,PermIn a b d E→SortedIn BR a b E→Ua BP g len nn cl a b d (b'-a') .ret env ⟨[BP,.arr g 8 nn cl (vs GX.av E.toList)],c⟩:=by
  intro c E env h1 h2
  unfold Ua
  conv=>whnf
  apply Ah rfl
  exact⟨_,E,rfl,rfl,h1,h2⟩
 refine KJ (a:=Hu (L8 l226_0_b)) (b:=Eb (L8 l226_0_b)) (Ahq hs hab hb fun tl1=>?_)
 refine KJ (a:=Hu (Eb (L8 l226_0_b))) (b:=Eb (Eb (L8 l226_0_b))) (Ahr hs hab hb hD (fun tl2 c2 h12=>?_) fun c E env h1 h2=>hret c E env (hR E h1 h2).1 (hR E h1 h2).2)
 refine KJ (a:=Hu (Eb (Eb (L8 l226_0_b)))) (b:=Sz) (Ae6 hs h12 hb hD hlim (fun tl3 c3 hl0=>?_) fun c E env h1 h2=>hret c E env (hR E h1 h2).1 (hR E h1 h2).2)
 refine KJ (a:=Hu Sz) (b:=Eb Sz) (Ahp hs h12 hb hD hl0 (fun tl4 c4 wb4 Alc E4 hl4 Ajp p4=>?_) KZ)
 have hD4:E4.size=len:=by rw[p4.1,hD]
 refine KJ (a:=Hu (Eb Sz)) (b:=Eb (Eb Sz)) (Aho hs h12 hb hD4 fun tl5 c5 p h hp1 hp2=>?_)
 refine KJ (a:=Hu (Eb (Eb Sz))) (b:=Ae4) (Ahn hs h12 hb hD4 hp1 hp2 fun tl6 c6 p6 h6 E6 q6 Ajq Ajr=>?_)
 have p6':=permIn_trans _ _ _ _ _ p4 q6
 have hD6:E6.size=len:=by rw[p6'.1,hD]
 have hB6:=hB.perm (by omega) p6'
 refine KJ (a:=Hu Ae4) (b:=Ae5) (Ahm hs h12 hb hD6 hB6 (fun tl7 c7 E7 q7=>?_) fun c E env h1 h2=>hret c E env (hR E (permIn_trans _ _ _ _ _ p6' h1) h2).1 (hR E (permIn_trans _ _ _ _ _ p6' h1) h2).2)
 have p7:=permIn_trans _ _ _ _ _ p6' q7
 have hD7:E7.size=len:=by rw[p7.1,hD]
 have hB7:=hB.perm (by omega) p7
 have hR7:∀R,PermIn a' b' E7 R→SortedIn BR a' b' R→PermIn a b d R∧SortedIn BR a b R:=fun R h1 h2=>hR R (permIn_trans _ _ _ _ _ p7 h1) h2
 refine KJ (a:=Hu Ae5) (b:=Ajo) (Ahl hs h12 hb hD7 hB7 Ajq Ajr (fun tl8=>Ahk hs ih h12 hb hle hl4 Ajp hD7 hB7 hR7 Ajq Ajr) fun c' mid E m1 m2 hE hBE fin=>?_)
 unfold Ua
 conv=>whnf
 exact again.mk ⟨_,by omega,mid,b',_,Alc,_,_,E,rfl,by omega,hb,by omega,hl4,Ajp,hE,hBE,fun R h1 h2=>hR7 R (fin R h1 h2).1 (fin R h1 h2).2,rfl,rfl⟩
end
theorem Ajt {BP:Obj} {g len:Nat} {nn cl:Bool} (hs:len<2^61):∀n a b,b-a≤n→Zx BP g len nn cl a b:=by
 intro n
 induction n using Nat.strongRecOn with
 |ind n IH=>
  intro a b hn
  have ih:∀x y,y-x<b-a→Zx BP g len nn cl x y:=fun x y h=>IH (y-x) (by omega) x y (Nat.le_refl _)
  clear IH hn
  intro c limit d hd hb hab hlim KZ hB
  refine Aj rfl rfl ?_
  (conv=>whnf);repeat' (first  |(refine kA ?_;conv=>whnf)|(refine Br.mk (fun hc=>?_) fun hc=>?_<;>first|exact hc.elim|conv=>whnf)|(refine kB ?_))
  refine Ag (AfJ BP g len nn cl a b d) ?_ _ _ _ ⟨a,b,_,limit,true,true,d,rfl,hab,hb,Nat.le_refl _,hlim,KZ,hd,hB,fun R h1 h2=>⟨h1,h2⟩,rfl,rfl⟩
  rintro _ _ _ ⟨a',b',c,limit,wb,wp,D,rfl,hab',hb',hle,hlim,KZ,hD,hB',hR,rfl,rfl⟩
  refine⟨rfl,?_⟩
  exact Ae7 hs ih hab' hb' hle hlim KZ hD hB' hR
theorem AeH {BP:Obj} {g len c:Nat} {nn cl:Bool} {L:List GX} (hl:L.length=len) (hs:len<2^61) {limit:Int} (h0:0≤limit) (h1:limit<2^62):
 AA (Ad tab) 226 [.own 1 g 0 len,.int .i64 0,.int .i64 len,.int .i64 limit,.fn 86 []] ⟨[BP,.arr g 8 nn cl (vs GX.av L)],c⟩ fun out s'=>∃c' W,out=.ok (.BL [])∧s'=⟨[BP,.arr g 8 nn cl (vs GX.av W)],c'⟩∧W.Perm L∧W.Pairwise (fun x y=>BR y x=false):=by
 have:=Ajt (BP:=BP) (g:=g) (nn:=nn) (cl:=cl) hs len 0 len (by omega) c limit L.toArray (by simpa using hl) (Nat.le_refl _) (by omega) h0 h1 (Or.inl rfl)
 refine this.mono ?_
 rintro _ _ ⟨c',D,rfl,rfl,p1,p2⟩
 refine⟨c',D.toList,rfl,rfl,Aem hl p1,Aag (by rw[p1.1];simpa using hl) p2⟩
end
section
open Go.Sort
section
variable {α:Type} [Inhabited α]
end
end
section
open Go.Sort
theorem AgS {BP:Obj} {g len c:Nat} {nn cl:Bool} {L:List GX} (hl:L.length=len) (hs:len<2^61):
 AA (Ad tab) 138 [.own 1 g 0 len,.fn 86 []] ⟨[BP,.arr g 8 nn cl (vs GX.av L)],c⟩ fun out s'=>∃c' W,out=.ok (.BL [])∧s'=⟨[BP,.arr g 8 nn cl (vs GX.av W)],c'⟩∧W.Perm L∧W.Pairwise (fun x y=>BR y x=false):=by
 have hb:bitsLen len≤62:=(bitsLen_le_iff len 62).2 (by omega)
 refine Aj rfl rfl ?_
 (conv=>whnf);repeat' (first|(refine wrapN len rfl rfl (by show _<2^64;omega) ?_;conv=>whnf)|(refine Aa (V7 (n:=len) (by omega)) ?_;rintro _ rfl;conv=>whnf)|(refine kA ?_;conv=>whnf)|(refine Br.mk (fun hc=>?_) fun hc=>?_<;>first|exact hc.elim|conv=>whnf)|(refine kB ?_))
 refine(AeH hl hs (by omega) (by omega)).mono ?_
 rintro _ _ ⟨c',W,rfl,rfl,h1,h2⟩
 conv=>whnf
 apply Ah rfl
 (conv=>whnf);repeat' (first  |(refine kA ?_;conv=>whnf)|(refine Br.mk (fun hc=>?_) fun hc=>?_<;>first|exact hc.elim|conv=>whnf)|(refine kB ?_))
 exact⟨_,W,rfl,rfl,h1,h2⟩
end
def allNames (l:List (List UInt8)):Prop:=∀s∈l,isName s
noncomputable instance (l:List (List UInt8)):Decidable (allNames l):=Classical.propDecidable _
def rises (l:List (List UInt8)):Prop:=∀j (h:j+1<l.length),(Op.bytesLess l[j+1] l[j]||l[j+1]==l[j])=false
noncomputable instance (l:List (List UInt8)):Decidable (rises l):=Classical.propDecidable _
theorem unn {s:List UInt8} (hl:s.length<2^63):Ae (Ad tab) 174 [.str s] (· =.bool (decide (¬ isName s))):=by
 refine Ac rfl rfl ?_
 (conv=>whnf);repeat' (first|(refine kA ?_;conv=>whnf)|(refine Br.mk (fun hc=>?_) fun hc=>?_<;>first|exact hc.elim|conv=>whnf)|(refine Bj (name1 hl) (fun hr=>?_) (fun hr=>?_)<;>conv=>whnf)|(refine kB ?_))
 ·exact Aw (fun h=>h hr)
 ·exact Bf hr
theorem Ah4 {l:List (List UInt8)} {nn:Bool} (hl:l.length<2^63) (hs:∀s∈l,s.length<2^63):Ae (Ad tab) 243 [.sl nn (vs .str l),.fn 174 []] (fun v=>∃z,v=.int .i64 z∧(0≤z↔¬allNames l)):=by
 refine Ac rfl rfl ?_
 (conv=>whnf);repeat' (first|(refine kA ?_;conv=>whnf)|(refine Br.mk (fun hc=>?_) fun hc=>?_<;>first|exact hc.elim|conv=>whnf)  |(refine kB ?_))
 refine Ag (fun m env s=>∃i:Nat,m=l.length-i∧env=[(0,.sl nn (vs .str l)),(1,.fn 174 []),(7,.int .i64 l.length),(8,.int .i64 i)]∧s=⟨[],0⟩∧∀s∈l.take i,isName s) ?_ _ _ _ ⟨0,rfl,by simp,rfl,by simp⟩
 rintro _ _ _ ⟨i,rfl,rfl,rfl,hx⟩
 refine⟨rfl,?_⟩
 (conv=>whnf);repeat' (first|(refine kA ?_;conv=>whnf)|(refine Br.mk (fun hc=>?_) fun hc=>?_<;>first|exact hc.elim|conv=>whnf)|(refine Bj (unn (hs _ (List.getElem_mem (by omega)))) (fun hr=>?_) (fun hr=>?_)<;>conv=>whnf)|(refine kB ?_))
 ·exact⟨_,rfl,fun _ h=>hr (h _ (List.getElem_mem _)),fun _=>by omega⟩
 ·exact again.mk ⟨_,by omega,i+1,rfl,rfl,rfl,Dl (by omega) hx (Decidable.of_not_not hr)⟩
 ·rw[EK hc]at hx;exact⟨_,rfl,fun h=>absurd h (by omega),fun h=>absurd hx h⟩
theorem Aby {l:List (List UInt8)} {nn:Bool} (hl:l.length<2^63) (hs:∀s∈l,s.length<2^63):Ae (Ad tab) 173 [.sl nn (vs .str l),.fn 174 []] (· =.bool (decide (¬ allNames l))):=by
 refine Ac rfl rfl ?_
 (conv=>whnf);repeat' (first|(refine kA ?_;conv=>whnf)|(refine Br.mk (fun hc=>?_) fun hc=>?_<;>first|exact hc.elim|conv=>whnf)  |(refine kB ?_))
 refine Aa (Ah4 hl hs) ?_
 rintro _ ⟨z,rfl,hz⟩
 (conv=>whnf);repeat' (first|(refine kA ?_;conv=>whnf)|(refine Br.mk (fun hc=>?_) fun hc=>?_<;>first|exact hc.elim|conv=>whnf)  |(refine kB ?_))
 ·exact Bf (hz.1 hc)
 ·exact Aw (mt hz.2 hc)
theorem Abz {l:List (List UInt8)} {nn:Bool} (hl:l.length<2^63) (hs:∀s∈l,s.length<2^63):Ae (Ad tab) 220 [.sl nn (vs .str l)] (· =.bool (decide (allNames l))):=by
 refine Ac rfl rfl ?_
 (conv=>whnf);repeat' (first|(refine kA ?_;conv=>whnf)|(refine Br.mk (fun hc=>?_) fun hc=>?_<;>first|exact hc.elim|conv=>whnf)  |(refine kB ?_))
 refine Ag (fun m env s=>∃i:Nat,m=l.length-i∧env=[(0,.sl nn (vs .str l)),(3,.int .i64 i)]∧s=⟨[],0⟩∧∀s∈l.take i,isName s) ?_ _ _ _ ⟨0,rfl,rfl,rfl,by simp⟩
 rintro _ _ _ ⟨i,rfl,rfl,rfl,hx⟩
 refine⟨rfl,?_⟩
 (conv=>whnf);repeat' (first|(refine kA ?_;conv=>whnf)|(refine Br.mk (fun hc=>?_) fun hc=>?_<;>first|exact hc.elim|conv=>whnf)|(refine Bj (name2 (hs _ (List.getElem_mem (by omega)))) (fun hr=>?_) (fun hr=>?_)<;>conv=>whnf)|(refine kB ?_))
 ·exact again.mk ⟨_,by omega,i+1,rfl,rfl,rfl,Dl (by omega) hx hr⟩
 ·exact Aw fun h=>hr (h _ (List.getElem_mem _))
 ·rw[EK hc]at hx;exact Bf hx
theorem AbA {l:List (List UInt8)} {nn:Bool} (hl:l.length<2^63):Ae (Ad tab) 175 [.sl nn (vs .str l)] (· =.bool (decide (rises l))):=by
 refine Ac rfl rfl ?_
 (conv=>whnf);repeat' (first|(refine kA ?_;conv=>whnf)|(refine Br.mk (fun hc=>?_) fun hc=>?_<;>first|exact hc.elim|conv=>whnf)  |(refine kB ?_))
 refine Ag (fun m env s=>∃i:Nat,m=l.length-i∧env=[(0,.sl nn (vs .str l)),(3,.int .i64 (i+1:Nat))]∧s=⟨[],0⟩∧∀j (h:j+1<l.length),j<i→(Op.bytesLess l[j+1] l[j]||l[j+1]==l[j])=false) ?_ _ _ _ ⟨0,rfl,rfl,rfl,fun j _ h=>absurd h (by omega)⟩
 rintro _ _ _ ⟨i,rfl,rfl,rfl,hx⟩
 refine⟨rfl,?_⟩
 (conv=>whnf);repeat' (first|(refine kA ?_;conv=>whnf)|(refine Br.mk (fun hc=>?_) fun hc=>?_<;>first|exact hc.elim|conv=>whnf)|(apply Ap;(· exact nVz i (by omega) (by omega));conv=>whnf)|(refine kB ?_))
 ·exact Aw fun h=>by simp only[show (((i+1:Nat):Int)-1).toNat=i by omega]at hc;rw[h i (by omega)]at hc;cases hc
 ·simp only[show (((i+1:Nat):Int)-1).toNat=i by omega]at hc
  exact again.mk ⟨_,by omega,i+1,rfl,rfl,rfl,fun j h hj=>by
   by_cases e:j=i
   ·subst e;simpa using hc
   ·exact hx j h (by omega)⟩
 ·exact Bf fun j h=>hx j h (by omega)
theorem AbB {l:List (List UInt8)} {nn:Bool} (hl:l.length<2^63):Ae (Ad tab) 221 [.sl nn (vs .str l)] (· =.bool (decide (rises l))):=by
 refine Ac rfl rfl ?_
 (conv=>whnf);repeat' (first|(refine kA ?_;conv=>whnf)|(refine Br.mk (fun hc=>?_) fun hc=>?_<;>first|exact hc.elim|conv=>whnf)  |(refine kB ?_))
 refine Ag (fun m env s=>∃i:Nat,m=l.length-i∧env=[(0,.sl nn (vs .str l)),(3,.int .i64 (i+1:Nat))]∧s=⟨[],0⟩∧∀j (h:j+1<l.length),j<i→(Op.bytesLess l[j+1] l[j]||l[j+1]==l[j])=false) ?_ _ _ _ ⟨0,rfl,rfl,rfl,fun j _ h=>absurd h (by omega)⟩
 rintro _ _ _ ⟨i,rfl,rfl,rfl,hx⟩
 refine⟨rfl,?_⟩
 (conv=>whnf);repeat' (first|(refine kA ?_;conv=>whnf)|(refine Br.mk (fun hc=>?_) fun hc=>?_<;>first|exact hc.elim|conv=>whnf)|(apply Ap;(· exact nVz i (by omega) (by omega));conv=>whnf)|(refine kB ?_))
 ·exact Aw fun h=>by simp only[show (((i+1:Nat):Int)-1).toNat=i by omega]at hc;rw[h i (by omega)]at hc;cases hc
 ·simp only[show (((i+1:Nat):Int)-1).toNat=i by omega]at hc
  exact again.mk ⟨_,by omega,i+1,rfl,rfl,rfl,fun j h hj=>by
   by_cases e:j=i
   ·subst e;simpa using hc
   ·exact hx j h (by omega)⟩
 ·exact Bf fun j h=>hx j h (by omega)
theorem AkP {g len:Nat} {nn cl:Bool} {l:List (List UInt8)} {x:List UInt8} {bytes:Nat} {K:Nat→Bool→Bool→List AV→Prop} (hl:len=l.length) (hr:(l.length+1)*bytes≤2 ^ 46) (h:K (len+1) true cl (vs .str (l++[x]))):
 Lj g g 1 1 len nn cl true (vs .str l) [.str x] bytes K:=by
 subst hl
 refine⟨⟨rfl,rfl,by simp,Vz rfl,hr⟩,?_⟩
 rw[Yn,Bool.and_true]
 simpa using h
def keysOf (P:List GP):List (List UInt8):=P.map GP.key
@[simp] theorem MZ (P:List GP):(keysOf P).length=P.length:=by simp[keysOf]
theorem TF {P:List GP} (hp:∀p∈P,p.ok):∀s∈keysOf P,s.length<2^63:=by
 intro s h
 obtain⟨p,h1,rfl⟩:=List.mem_map.1 h
 exact(hp p h1).1
theorem PD {P:List GP} {i:Nat} (h:i<P.length):keysOf (P.take i)++[(P[i]).key]=keysOf (P.take (i+1)):=by
 rw[List.take_succ_eq_append_getElem h];unfold keysOf;rw[List.map_append];rfl
def allPlain (P:List GP):Prop:=∀p∈P,D5 p.v
noncomputable instance (P:List GP):Decidable (allPlain P):=Classical.propDecidable _
noncomputable def Dy (L:List (List UInt8)) (P:List GP):Int:=
 if 8<L.length∨16<P.length then 4 else if¬(allNames L∧allNames (keysOf P))then 6 else if¬(rises L∧rises (keysOf P))then 26 else if¬allPlain P then 8 else 0
theorem Oi {L:List (List UInt8)} {P:List GP} (h:8<L.length∨16<P.length):AV.int .i64 4=AV.int .i64 (Dy L P):=by rw[Dy,if_pos h]
theorem Oj {L:List (List UInt8)} {P:List GP} (h:¬(8<L.length∨16<P.length)) (h1:¬(allNames L∧allNames (keysOf P))):AV.int .i64 6=AV.int .i64 (Dy L P):=by rw[Dy,if_neg h,if_pos h1]
theorem KU {L:List (List UInt8)} {P:List GP} (h:¬(8<L.length∨16<P.length)) (h1:allNames L∧allNames (keysOf P)) (h2:¬(rises L∧rises (keysOf P))):AV.int .i64 26=AV.int .i64 (Dy L P):=by rw[Dy,if_neg h,if_neg (not_not_intro h1),if_pos h2]
theorem UU {L:List (List UInt8)} {P:List GP} (h:¬(8<L.length∨16<P.length)) (h1:allNames L∧allNames (keysOf P)) (h2:rises L∧rises (keysOf P)) (h3:¬allPlain P):AV.int .i64 8=AV.int .i64 (Dy L P):=by rw[Dy,if_neg h,if_neg (not_not_intro h1),if_neg (not_not_intro h2),if_pos h3]
theorem Zb {L:List (List UInt8)} {P:List GP} (h:¬(8<L.length∨16<P.length)) (h1:allNames L∧allNames (keysOf P)) (h2:rises L∧rises (keysOf P)) (h3:allPlain P):AV.int .i64 0=AV.int .i64 (Dy L P):=by rw[Dy,if_neg h,if_neg (not_not_intro h1),if_neg (not_not_intro h2),if_neg (not_not_intro h3)]
theorem Acx {L:List (List UInt8)} {P:List GP} {ln pn:Bool} (hL:L.length<2^63) (hs:∀s∈L,s.length<2^63) (hP:P.length<2^63) (hp:∀p∈P,p.ok):Ae (Ad tab) 103 [.sl ln (vs .str L),.sl pn (vs GP.av P)] (· =.int .i64 (Dy L P)):=by
 have hk:=TF hp
 refine Ac rfl rfl ?_
 (conv=>whnf);repeat' (first|(refine kA ?_;conv=>whnf)|(refine Br.mk (fun hc=>?_) fun hc=>?_<;>first|exact hc.elim|conv=>whnf)  |(refine kB ?_))
 ·exact Oi (by omega)
 ·exact Oi (by omega)
 have h16:¬(8<L.length∨16<P.length):=by omega
 refine Ag (fun m env s=>∃(i g:Nat),m=P.length-i∧i≤P.length∧env=[(0,.sl ln (vs .str L)),(1,.sl pn (vs GP.av P)),(5,.own 0 g 0 i),(18,.sl pn (vs GP.av P)),(19,.int .i64 P.length),(20,.int .i64 i)]∧∃nn c,s=⟨[.arr g 1 nn true (vs .str (keysOf (P.take i)))],c⟩) ?_ _ _ _ ⟨0,0,rfl,by omega,rfl,_,_,rfl⟩
 rintro _ _ _ ⟨i,g,rfl,hi,rfl,nn,c,rfl⟩
 refine⟨rfl,?_⟩
 (conv=>whnf);repeat' (first|(refine kA ?_;conv=>whnf)|(refine Br.mk (fun hc=>?_) fun hc=>?_<;>first|exact hc.elim|conv=>whnf)  |(refine kB ?_))
 ·refine AkP (by simp;omega) (by simp;omega) ?_
  (conv=>whnf);repeat' (first|(refine kA ?_;conv=>whnf)|(refine Br.mk (fun hc=>?_) fun hc=>?_<;>first|exact hc.elim|conv=>whnf)  |(refine kB ?_))
  rw[PD (by omega)]
  exact again.mk ⟨_,by omega,i+1,_,rfl,by omega,rfl,_,_,rfl⟩
 ·rw[EK hc]
  obtain rfl:i=P.length:=by omega
  have hu:sub (vs AV.str (keysOf P)) 0 P.length=vs .str (keysOf P):=by rw[← MZ P];exact uV
  have hkl:(keysOf P).length<2^63:=by rw[MZ];exact hP
  (conv=>whnf);repeat' (first|(refine Bj (Aby hL hs) (fun h1=>?_) (fun h1=>?_)<;>conv=>whnf)|(rw [hu];refine Bj (Aby hkl hk) (fun h2=>?_) (fun h2=>?_)<;>conv=>whnf)|(refine Bj (AbA hL) (fun h3=>?_) (fun h3=>?_)<;>conv=>whnf)|(rw [hu];refine Bj (AbA hkl) (fun h4=>?_) (fun h4=>?_)<;>conv=>whnf)|(refine kA ?_;conv=>whnf)|(refine Br.mk (fun hc=>?_) fun hc=>?_<;>first|exact hc.elim|conv=>whnf)|(refine kB ?_))
  ·exact Oj h16 fun h=>h1 h.1
  ·exact Oj h16 fun h=>h2 h.2
  ·refine Ag (fun m env s=>∃(i:Nat),m=P.length-i∧env=[(44,.sl pn (vs GP.av P)),(45,.int .i64 P.length),(46,.int .i64 i)]∧(∃ c,s=⟨[.arr g 1 nn true (vs .str (keysOf P))],c⟩)∧∀p∈P.take i,D5 p.v) ?_ _ _ _ ⟨0,rfl,rfl,⟨_,rfl⟩,by simp⟩
   clear hc hi
   rintro _ _ _ ⟨i,rfl,rfl,⟨c,rfl⟩,hx⟩
   refine⟨rfl,?_⟩
   (conv=>whnf);repeat' (first|(refine Bj (Acy (v:=(P[i]).v) (hp _ (List.getElem_mem (by omega))).2) (fun h5=>?_) (fun h5=>?_)<;>conv=>whnf)|(refine kA ?_;conv=>whnf)|(refine Br.mk (fun hc=>?_) fun hc=>?_<;>first|exact hc.elim|conv=>whnf)|(refine kB ?_))
   ·exact again.mk ⟨_,by omega,i+1,rfl,rfl,⟨_,rfl⟩,Dl (by omega) hx h5⟩
   ·exact UU h16 ⟨Classical.not_not.1 h1,Classical.not_not.1 h2⟩ ⟨h3,h4⟩ fun h=>h5 (h _ (List.getElem_mem _))
   ·rw[EK hc]at hx
    exact Zb h16 ⟨Classical.not_not.1 h1,Classical.not_not.1 h2⟩ ⟨h3,h4⟩ hx
  ·exact KU h16 ⟨Classical.not_not.1 h1,Classical.not_not.1 h2⟩ fun h=>h4 h.2
  ·exact KU h16 ⟨Classical.not_not.1 h1,Classical.not_not.1 h2⟩ fun h=>h3 h.1
attribute [irreducible] Dy
def incr (l:List Int):Prop:=∀j (h:j+1<l.length),l[j]<l[j+1]
noncomputable instance (l:List Int):Decidable (incr l):=Classical.propDecidable _
theorem YJ {l:List Int} (h:incr l) {i:Nat}:∀d (hd:i+d+1<l.length),l[i]<l[i+d+1]
 |0,hd=>h i hd
 |d+1,hd=>Int.lt_trans (YJ h d (by omega)) (h (i+d+1) hd)
theorem ZO {l:List Int} (h:incr l) {i j:Nat} (hij:i<j) (hj:j<l.length):l[i]<l[j]:=by
 obtain⟨d,rfl⟩:∃d,j=i+d+1:=⟨j-i-1,by omega⟩
 exact YJ h d hj
def FK (N:List GN):List Int:=N.map GN.id
def AhW (E:List GE):List Int:=E.map GE.id
@[simp] theorem AhX (N:List GN):(FK N).length=N.length:=by simp[FK]
@[simp] theorem AhY (N:List GE):(AhW N).length=N.length:=by simp[AhW]
theorem Lm {N:List GN} {i:Nat} (h:i<N.length):(FK N)[i]'(by simpa using h)=(N[i]).id:=by simp[FK]
theorem Xq {N:List GN} (h:incr (FK N)) {i j:Nat} (hij:i<j) (hj:j<N.length):(N[i]).id<(N[j]).id:=by
 have:=ZO h hij (by simpa using hj)
 rwa [Lm (by omega),Lm hj]at this
theorem Akd {n:GN} {x:Int}:Ae (Ad tab) 178 [n.av,.int .i64 x] (· =.int .i64 (CJ n.id x)):=by
 refine Ac rfl rfl ?_
 (conv=>whnf);repeat' (first|(refine kA ?_;conv=>whnf)|(refine Br.mk (fun hc=>?_) fun hc=>?_<;>first|exact hc.elim|conv=>whnf)|(refine Aa compare ?_;rintro _ rfl;conv=>whnf)|(refine kB ?_))
 rfl
theorem bsearch {N:List GN} {nn:Bool} {x:Int} (hN:N.length<2^62) (hi:incr (FK N)):Ae (Ad tab) 177 [.sl nn (vs GN.av N),.int .i64 x,.fn 178 []] (fun v=>∃z b,v=.BL [.int .i64 z,.bool b]∧(b=true↔x∈FK N)):=by
 have fin:∀i:Nat,i≤N.length→(∀ k (h:k<N.length),k<i→(N[k]).id<x)→(∀ k (h:k<N.length),i≤k→x≤(N[k]).id)→(x∈FK N↔∃h:i<N.length,(N[i]).id=x):=by
  intro i h0 h1 h2
  constructor
  ·intro h
   obtain⟨k,hk,e⟩:=List.getElem_of_mem h
   have hk':k<N.length:=by simpa using hk
   rw[Lm hk']at e
   have a1:=h1 k hk'
   have:i≤k:=by
        rcases Nat.lt_or_ge k i with h|h
        ·have:=a1 h;omega
        ·exact h
   rcases Nat.lt_or_ge i k with h|h
   ·have:=Xq hi h hk'
    have:=h2 i (by omega) (Nat.le_refl _)
    omega
   ·obtain rfl:i=k:=by omega
    exact⟨hk',e⟩
  ·rintro⟨h,e⟩
   rw[← e,←Lm h]
   exact List.getElem_mem _
 refine Ac rfl rfl ?_
 (conv=>whnf);repeat' (first|(refine kA ?_;conv=>whnf)|(refine Br.mk (fun hc=>?_) fun hc=>?_<;>first|exact hc.elim|conv=>whnf)  |(refine kB ?_))
 refine Ag (fun m env s=>∃(i j:Nat),m=j-i∧i≤j∧j≤N.length∧env=[(0,.sl nn (vs GN.av N)),(1,.int .i64 x),(2,.fn 178 []),(8,.int .i64 N.length),(9,.int .i64 i),(10,.int .i64 j)]∧s=⟨[],0⟩∧
  (∀ k (h:k<N.length),k<i→(N[k]).id<x)∧(∀ k (h:k<N.length),j≤k→x≤(N[k]).id)) ?_ _ _ _ ⟨0,N.length,rfl,by omega,by omega,by simp,rfl,fun k _ h=>absurd h (by omega),fun k h1 h=>absurd h (by omega)⟩
 rintro _ _ _ ⟨i,j,rfl,hij,hj,rfl,rfl,h1,h2⟩
 refine⟨rfl,?_⟩
 (conv=>whnf);repeat' (first|(refine Vb (i+j) (by omega) (by omega) ?_;conv=>whnf)|(apply BK;(· exact AaK _);conv=>whnf)|(refine Aa Akd ?_;rintro _ rfl;conv=>whnf)|(refine kA ?_;conv=>whnf)|(refine Br.mk (fun hc=>?_) fun hc=>?_<;>first|exact hc.elim|conv=>whnf)|(refine kB ?_))
 ·have hm:=Ns.1 hc
  exact again.mk ⟨_,by omega,(i+j) / 2+1,j,rfl,by omega,hj,rfl,rfl,fun k hk hlt=>by
   rcases Nat.lt_or_ge k ((i+j) / 2)with h|h
   ·exact Int.lt_trans (Xq hi h (by omega)) hm
   ·obtain rfl:k=(i+j) / 2:=by omega
    exact hm,h2⟩
 ·have hm:=mt Ns.2 hc
  exact again.mk ⟨_,by omega,i,(i+j) / 2,rfl,by omega,by omega,rfl,rfl,h1,fun k hk hle=>by
   rcases Nat.lt_or_ge ((i+j) / 2) k with h|h
   ·have:=Xq hi h hk;omega
   ·obtain rfl:k=(i+j) / 2:=by omega
    omega⟩
 all_goals have hf:=fin i (by omega) h1 (fun k hk h=>h2 k hk (by omega))
 ·exact⟨_,_,rfl,fun _=>hf.2 ⟨by omega,Dq.1 hc⟩,fun _=>rfl⟩
 ·exact⟨_,_,rfl,fun h=>(Bool.noConfusion h),fun h=>absurd (Dq.2 (hf.1 h).2) hc⟩
 ·exact⟨_,_,rfl,fun h=>(Bool.noConfusion h),fun h=>absurd (hf.1 h).1 (by omega)⟩
theorem Ake {N:List GN} {nn:Bool} {x:Int} (hN:N.length<2^62) (hi:incr (FK N)):Ae (Ad tab) 104 [.sl nn (vs GN.av N),.int .i64 x] (· =.bool (decide (x∈FK N))):=by
 refine Ac rfl rfl ?_
 (conv=>whnf);repeat' (first|(refine kA ?_;conv=>whnf)|(refine Br.mk (fun hc=>?_) fun hc=>?_<;>first|exact hc.elim|conv=>whnf)  |(refine kB ?_))
 refine Aa (bsearch hN hi) ?_
 rintro _ ⟨z,b,rfl,hb⟩
 (conv=>whnf);repeat' (first|(refine kA ?_;conv=>whnf)|(refine Br.mk (fun hc=>?_) fun hc=>?_<;>first|exact hc.elim|conv=>whnf)  |(refine kB ?_))
 ·exact Bf (hb.1 hc)
 ·exact Aw fun h=>by rw[hb.2 h]at hc;cases hc
def Iw (f:Nat→Int):Nat→Int
 |0=>0
 |n+1=>if Iw f n=0 then f n else Iw f n
theorem Ea {f:Nat→Int}:∀{n:Nat},Iw f n=0↔∀k,k<n→f k=0
 |0=>by simp[Iw]
 |n+1=>by
  unfold Iw
  split
  ·rename_i h
   have:=Ea.1 h
   refine⟨fun h0 k hk=>?_,fun h0=>h0 n (by omega)⟩
   rcases Nat.lt_or_ge k n with h1|h1
   ·exact this k h1
   ·obtain rfl:k=n:=by omega
    exact h0
  ·rename_i h
   exact⟨fun h0=>absurd h0 h,fun h0=>absurd (Ea.2 fun k hk=>h0 k (by omega)) h⟩
theorem OY {f:Nat→Int} {i:Nat} (h:∀k,k<i→f k=0) (hi:f i≠0):∀{n:Nat},i<n→Iw f n=f i
 |0,hn=>absurd hn (by omega)
 |n+1,hn=>by
  unfold Iw
  rcases Nat.lt_or_ge i n with h1|h1
  ·rw[OY h hi h1,if_neg hi]
  ·obtain rfl:i=n:=by omega
   rw[if_pos (Ea.2 h)]
noncomputable def DU (N:List GN) (nx:Int) (i:Nat):Int:=
 match N[i]? with
 |none=>0
 |some n=>if 0<i∧(∃ m,N[i-1]?=some m∧n.id≤m.id)then 26 else if n.id<1∨nx≤n.id then 1 else Dy n.labels n.props
noncomputable def D8 (N:List GN) (E:List GE) (nx:Int) (i:Nat):Int:=
 match E[i]? with
 |none=>0
 |some e=>if 0<i∧(∃ m,E[i-1]?=some m∧e.id≤m.id)then 26 else if e.id<1∨nx≤e.id then 1 else if¬(e.fr∈FK N∧e.to∈FK N)then 10 else if¬isName e.ty then 6 else Dy [] e.props
theorem Xt {N:List GN} {nx:Int} {i:Nat} (h:i<N.length) (h0:0<i) (h1:(N[i]).id≤(N[i-1]).id):DU N nx i=26:=by
 unfold DU;rw[List.getElem?_eq_getElem h];exact if_pos ⟨h0,_,List.getElem?_eq_getElem (by omega),h1⟩
theorem Zu {N:List GN} {i:Nat} (h:i<N.length) (h1:0<i→¬(N[i]).id≤(N[i-1]).id):¬(0<i∧∃m,N[i-1]?=some m∧(N[i]).id≤m.id):=by
 rintro⟨a,m,b,c⟩;rw[List.getElem?_eq_getElem (by omega)]at b;rw[← Option.some.inj b]at c;exact h1 a c
theorem node1 {N:List GN} {nx:Int} {i:Nat} (h:i<N.length) (h1:0<i→¬(N[i]).id≤(N[i-1]).id) (h2:(N[i]).id<1∨nx≤(N[i]).id):DU N nx i=1:=by
 unfold DU;rw[List.getElem?_eq_getElem h];dsimp only;rw[if_neg (Zu h h1),if_pos h2]
theorem YL {N:List GN} {nx:Int} {i:Nat} (h:i<N.length) (h1:0<i→¬(N[i]).id≤(N[i-1]).id) (h2:¬((N[i]).id<1∨nx≤(N[i]).id)):DU N nx i=Dy (N[i]).labels (N[i]).props:=by
 unfold DU;rw[List.getElem?_eq_getElem h];dsimp only;rw[if_neg (Zu h h1),if_neg h2]
theorem Qi {N:List GN} {nx:Int} {i:Nat} (h:i<N.length) (h0:DU N nx i=0):(0<i→(N[i-1]).id<(N[i]).id)∧1≤(N[i]).id∧(N[i]).id<nx∧Dy (N[i]).labels (N[i]).props=0:=by
 by_cases h1:0<i∧(N[i]).id≤(N[i-1]).id
 ·rw[Xt h h1.1 h1.2]at h0;omega
 have h1':0<i→¬(N[i]).id≤(N[i-1]).id:=fun a b=>h1 ⟨a,b⟩
 by_cases h2:(N[i]).id<1∨nx≤(N[i]).id
 ·rw[node1 h h1' h2]at h0;omega
 rw[YL h h1' h2]at h0
 exact⟨fun a=>by have:=h1' a;omega,by omega,by omega,h0⟩
theorem Xu {N:List GN} {E:List GE} {nx:Int} {i:Nat} (h:i<E.length) (h0:0<i) (h1:(E[i]).id≤(E[i-1]).id):D8 N E nx i=26:=by
 unfold D8;rw[List.getElem?_eq_getElem h];exact if_pos ⟨h0,_,List.getElem?_eq_getElem (by omega),h1⟩
theorem Qj {E:List GE} {i:Nat} (h:i<E.length) (h1:0<i→¬(E[i]).id≤(E[i-1]).id):¬(0<i∧∃m,E[i-1]?=some m∧(E[i]).id≤m.id):=by
 rintro⟨a,m,b,c⟩;rw[List.getElem?_eq_getElem (by omega)]at b;rw[← Option.some.inj b]at c;exact h1 a c
theorem Abp {N:List GN} {E:List GE} {nx:Int} {i:Nat} (h:i<E.length) (h1:0<i→¬(E[i]).id≤(E[i-1]).id) (h2:(E[i]).id<1∨nx≤(E[i]).id):D8 N E nx i=1:=by
 unfold D8;rw[List.getElem?_eq_getElem h];dsimp only;rw[if_neg (Qj h h1),if_pos h2]
theorem Xv {N:List GN} {E:List GE} {nx:Int} {i:Nat} (h:i<E.length) (h1:0<i→¬(E[i]).id≤(E[i-1]).id) (h2:¬((E[i]).id<1∨nx≤(E[i]).id)) (h3:¬((E[i]).fr∈FK N∧(E[i]).to∈FK N)):D8 N E nx i=10:=by
 unfold D8;rw[List.getElem?_eq_getElem h];dsimp only;rw[if_neg (Qj h h1),if_neg h2,if_pos h3]
theorem Abq {N:List GN} {E:List GE} {nx:Int} {i:Nat} (h:i<E.length) (h1:0<i→¬(E[i]).id≤(E[i-1]).id) (h2:¬((E[i]).id<1∨nx≤(E[i]).id)) (h3:(E[i]).fr∈FK N∧(E[i]).to∈FK N) (h4:¬isName (E[i]).ty):D8 N E nx i=6:=by
 unfold D8;rw[List.getElem?_eq_getElem h];dsimp only;rw[if_neg (Qj h h1),if_neg h2,if_neg (not_not_intro h3),if_pos h4]
theorem YM {N:List GN} {E:List GE} {nx:Int} {i:Nat} (h:i<E.length) (h1:0<i→¬(E[i]).id≤(E[i-1]).id) (h2:¬((E[i]).id<1∨nx≤(E[i]).id)) (h3:(E[i]).fr∈FK N∧(E[i]).to∈FK N) (h4:isName (E[i]).ty):D8 N E nx i=Dy [] (E[i]).props:=by
 unfold D8;rw[List.getElem?_eq_getElem h];dsimp only;rw[if_neg (Qj h h1),if_neg h2,if_neg (not_not_intro h3),if_neg (not_not_intro h4)]
theorem U0 {N:List GN} {E:List GE} {nx:Int} {i:Nat} (h:i<E.length) (h0:D8 N E nx i=0):(0<i→(E[i-1]).id<(E[i]).id)∧1≤(E[i]).id∧(E[i]).id<nx∧(E[i]).fr∈FK N∧(E[i]).to∈FK N∧isName (E[i]).ty∧Dy [] (E[i]).props=0:=by
 by_cases h1:0<i∧(E[i]).id≤(E[i-1]).id
 ·rw[Xu h h1.1 h1.2]at h0;omega
 have h1':0<i→¬(E[i]).id≤(E[i-1]).id:=fun a b=>h1 ⟨a,b⟩
 by_cases h2:(E[i]).id<1∨nx≤(E[i]).id
 ·rw[Abp h h1' h2]at h0;omega
 by_cases h3:(E[i]).fr∈FK N∧(E[i]).to∈FK N
 case neg=>rw[Xv h h1' h2 h3]at h0;omega
 by_cases h4:isName (E[i]).ty
 case neg=>rw[Abq h h1' h2 h3 h4]at h0;omega
 rw[YM h h1' h2 h3 h4]at h0
 exact⟨fun a=>by have:=h1' a;omega,by omega,by omega,h3.1,h3.2,h4,h0⟩
def EM (g:GG):Prop:=g.nodes.length≤2000∧g.edges.length≤4000
def F7 (g:GG):Prop:=1≤g.Bv∧g.Bv≤1000001∧1≤g.BD∧g.BD≤1000001
instance (g:GG):Decidable (EM g):=by unfold EM;infer_instance
instance (g:GG):Decidable (F7 g):=by unfold F7;infer_instance
noncomputable def BH (g:GG):Int:=
 if¬EM g then 4 else if¬F7 g then 1 else
  if Iw (DU g.nodes g.Bv) g.nodes.length=0 then Iw (D8 g.nodes g.edges g.BD) g.edges.length else Iw (DU g.nodes g.Bv) g.nodes.length
theorem Abs {g:GG} (h:¬EM g):AV.int .i64 4=AV.int .i64 (BH g):=by unfold BH;rw[if_pos h]
theorem Abt {g:GG} (h:EM g) (h1:¬F7 g):AV.int .i64 1=AV.int .i64 (BH g):=by unfold BH;rw[if_neg (not_not_intro h),if_pos h1]
theorem checkN {g:GG} (h:EM g) (h1:F7 g) {i:Nat} (hi:i<g.nodes.length) (h2:∀k,k<i→DU g.nodes g.Bv k=0) {r:Int} (h3:DU g.nodes g.Bv i=r) (hr:r≠0):AV.int .i64 r=AV.int .i64 (BH g):=by
 subst h3
 unfold BH
 rw[if_neg (not_not_intro h),if_neg (not_not_intro h1),OY h2 hr hi,if_neg hr]
theorem Lp {g:GG} (h:EM g) (h1:F7 g) (hn:∀k,k<g.nodes.length→DU g.nodes g.Bv k=0) {i:Nat} (hi:i<g.edges.length) (h2:∀k,k<i→D8 g.nodes g.edges g.BD k=0) {r:Int} (h3:D8 g.nodes g.edges g.BD i=r) (hr:r≠0):AV.int .i64 r=AV.int .i64 (BH g):=by
 subst h3
 unfold BH
 rw[if_neg (not_not_intro h),if_neg (not_not_intro h1),if_pos (Ea.2 hn),OY h2 hr hi]
theorem Abu {g:GG} (h:EM g) (h1:F7 g) (hn:∀k,k<g.nodes.length→DU g.nodes g.Bv k=0) (h2:∀k,k<g.edges.length→D8 g.nodes g.edges g.BD k=0):AV.int .i64 0=AV.int .i64 (BH g):=by
 unfold BH
 rw[if_neg (not_not_intro h),if_neg (not_not_intro h1),if_pos (Ea.2 hn),Ea.2 h2]
theorem Yd {N:List GN} {nx:Int} (h:∀k,k<N.length→DU N nx k=0):incr (FK N):=by
 intro j hj
 have hj':j+1<N.length:=by simpa using hj
 rw[Lm (by omega),Lm hj']
 exact(Qi hj' (h _ hj')).1 (by omega)
theorem Rx {g:GG} (h:BH g=0):EM g∧F7 g∧(∀ k,k<g.nodes.length→DU g.nodes g.Bv k=0)∧∀k,k<g.edges.length→D8 g.nodes g.edges g.BD k=0:=by
 unfold BH at h
 by_cases h1:EM g
 case neg=>rw[if_pos h1]at h;omega
 by_cases h2:F7 g
 case neg=>rw[if_neg (not_not_intro h1),if_pos h2]at h;omega
 rw[if_neg (not_not_intro h1),if_neg (not_not_intro h2)]at h
 split at h
 ·rename_i h3
  exact⟨h1,h2,Ea.1 h3,Ea.1 h⟩
 ·rename_i h3;exact absurd h h3
attribute [irreducible] DU D8 BH Iw
end AI
end Go.Proofs.YtceiccjppfapjaaGreatDoor
