/- Sorting in place (CmpFunc[graphdb/api.Pair]): the whole. Sorting (slices.SortFunc[[]graphdb/api.Pair,graphdb/api.Pair]), leaving out what repeats (none). Names: the program's and the reference's. value.Plain and the reference's Plain: which values may be stored. Valid values, and values that are alike: plain. Distances of all nodes: the program's, an entry of a greater table. -/
import Derived.Test.YtjjhejbffgaabaaGreatDoorRMaj
import Derived.Test.YtjjhejbffgaabaaGreatDoorRPxC
import Derived.Test.YtjjhejbffgaabaaGreatDoorRMah
import Derived.Test.YtjjhejbffgaabaaGreatDoorRMag
import Derived.Test.YtjjhejbffgaabaaGreatDoorRMab
import Derived.Test.YtjjhejbffgaabaaGreatDoorRMai
import Derived.Test.YtjjhejbffgaabaaGreatDoorRNd
set_option linter.unusedVariables false
set_option maxRecDepth 4000
namespace Go.Proofs.YtjjhejbffgaabaaGreatDoor
namespace AI
section
open Go.Sort
abbrev YU (AX BA BJ BN:Obj) (g len:Nat) (nn cl:Bool) (a b:Nat):Prop:=∀(c:Nat) (limit:Int) (d:Array (Int×Int)),d.size=len→b≤len→a≤b→0≤limit→limit<2^62→Below CU a b d→
 AY (Ac tab) 97 [.own 3 g 0 len,.int .i64 a,.int .i64 b,.int .i64 limit,.fn 77 []] ⟨[AX,BA,BJ,.arr g 2 nn cl (vs A8 d.toList),BN],c⟩ fun out s'=>∃c' D,out=.ok (.Du [])∧s'=⟨[AX,BA,BJ,.arr g 2 nn cl (vs A8 D.toList),BN],c'⟩∧PermIn a b d D∧SortedIn CU a b D
def D7:AA→AA
 | .seq _ b=>b
 |c=>c
def G6:AA→AA
 | .seq a _=>a
 |c=>c
def L8:AA→AA
 | .block _ a=>a
 |c=>c
noncomputable def SC:AA:=D7 (D7 (D7 (L8 l97_0_b)))
noncomputable def Aea:AA:=D7 (D7 (D7 SC))
noncomputable def Aeb:AA:=D7 Aea
noncomputable def Aiu:AA:=D7 Aeb
abbrev Afg (AX BA BJ BN:Obj) (g len:Nat) (nn cl:Bool) (a b:Nat) (d:Array (Int×Int)) (m:Nat) (env:Env) (s:Ag):Prop:=
 ∃(a' b' c:Nat) (limit:Int) (wb wp:Bool) (D:Array (Int×Int)),m=b'-a'∧a'≤b'∧b'≤len∧b'-a'≤b-a∧0≤limit∧limit<2^62∧D.size=len∧Below CU a' b' D∧(∀ R,PermIn a' b' D R→SortedIn CU a' b' R→PermIn a b d R∧SortedIn CU a b R)∧
  env=[(0,.own 3 g 0 len),(1,.int .i64 a'),(2,.int .i64 b'),(3,.int .i64 limit),(4,.fn 77 []),(10,.bool wb),(11,.bool wp)]∧s=⟨[AX,BA,BJ,.arr g 2 nn cl (vs A8 D.toList),BN],c⟩
section
variable {AX BA BJ BN:Obj} {g len:Nat} {nn cl:Bool} {a b:Nat} {d:Array (Int×Int)}
def TI (AX BA BJ BN:Obj) (g len:Nat) (nn cl:Bool) (a b:Nat) (d:Array (Int×Int)) (m:Nat):Ar→Env→Ag→Prop:=
 Abq 1 (Agx l97_0_h (again (Afg AX BA BJ BN g len nn cl a b d) m) (Abq 0 (PU a97 fun out s'=>∃c' D,out=.ok (.Du [])∧s'=⟨[AX,BA,BJ,.arr g 2 nn cl (vs A8 D.toList),BN],c'⟩∧PermIn a b d D∧SortedIn CU a b D)))
set_option maxHeartbeats 2000000 in
theorem Agy {tl:Env} (hs:len<2^61) (ih:∀x y,y-x<b-a→YU AX BA BJ BN g len nn cl x y) {a' b' c p:Nat} {limit:Int} {wb wp:Bool} {D:Array (Int×Int)} (hab:a'+12<b') (hb:b'≤len) (hle:b'-a'≤b-a) (hlim:0≤limit) (KU:limit<2^62) (hD:D.size=len) (hB:Below CU a' b' D)
 (hR:∀R,PermIn a' b' D R→SortedIn CU a' b' R→PermIn a b d R∧SortedIn CU a b R) (hp1:a'≤p) (hp2:p<b'):
 vC (Ac tab) Aiu ([(0,.own 3 g 0 len),(1,.int .i64 a'),(2,.int .i64 b'),(3,.int .i64 limit),(4,.fn 77 []),(10,.bool wb),(11,.bool wp),(12,.int .i64 (b'-a':Nat)),(13,.int .i64 p)]++tl) ⟨[AX,BA,BJ,.arr g 2 nn cl (vs A8 D.toList),BN],c⟩ (TI AX BA BJ BN g len nn cl a b d (b'-a')):=by
 unfold TI
 (conv=>whnf);repeat' (first  |(refine kA ?_;conv=>whnf)|(refine Br.mk (fun hc=>?_) fun hc=>?_<;>first|exact hc.elim|conv=>whnf)|(refine kB ?_))
 refine(AhK hD hb hp1 hp2 hs).mono ?_
 rintro _ _ ⟨c1,rfl,rfl⟩
 generalize hx:partition CU D a' b' p=R
 obtain⟨mid,ap,E⟩:=R
 obtain⟨m1,m2,hE,hBl,hBr,fl,fr⟩:=round_part Nr (partition_holds CU) hp1 hp2 (by omega) hB hx
 dsimp only
 conv=>whnf
 apply Aj rfl
 (conv=>whnf);repeat' (first|(refine TG (b'-a') 8 (by omega) (by omega) ?_;conv=>whnf)|(refine kA ?_;conv=>whnf)|(refine Br.mk (fun hc=>?_) fun hc=>?_<;>first|exact hc.elim|conv=>whnf)|(refine kB ?_))
 all_goals first
  |(refine (ih a' mid (by omega) _ limit E (by omega) (by omega) m1 hlim KU hBl).mono ?_
    rintro _ _ ⟨c2,L,rfl,rfl,q1,q2⟩
    obtain⟨hBL,fin⟩:=fl L q1 q2
    conv=>whnf
    apply Aj rfl
    (conv=>whnf);repeat' (first  |(refine kA ?_;conv=>whnf)|(refine Br.mk (fun hc=>?_) fun hc=>?_<;>first|exact hc.elim|conv=>whnf)|(refine kB ?_))
    exact again.mk ⟨_,by omega,mid+1,b',_,limit,_,_,L,rfl,by omega,hb,by omega,hlim,KU,by rw[q1.1,hE,hD],hBL,fun R h1 h2=>hR R (fin R h1 h2).1 (fin R h1 h2).2,rfl,rfl⟩)
  |(refine (ih (mid+1) b' (by omega) _ limit E (by omega) hb (by omega) hlim KU hBr).mono ?_
    rintro _ _ ⟨c2,L,rfl,rfl,q1,q2⟩
    obtain⟨hBL,fin⟩:=fr L q1 q2
    conv=>whnf
    apply Aj rfl
    (conv=>whnf);repeat' (first  |(refine kA ?_;conv=>whnf)|(refine Br.mk (fun hc=>?_) fun hc=>?_<;>first|exact hc.elim|conv=>whnf)|(refine kB ?_))
    exact again.mk ⟨_,by omega,a',mid,_,limit,_,_,L,rfl,by omega,by omega,by omega,hlim,KU,by rw[q1.1,hE,hD],hBL,fun R h1 h2=>hR R (fin R h1 h2).1 (fin R h1 h2).2,rfl,rfl⟩)
theorem Agz {tl:Env} (hs:len<2^61) {a' b' c p:Nat} {limit:Int} {wb wp:Bool} {D:Array (Int×Int)} {K:Env→Ag→Prop} {Q:Ar→Env→Ag→Prop} (hab:a'+12<b') (hb:b'≤len) (hD:D.size=len) (hB:Below CU a' b' D) (hp1:a'≤p) (hp2:p<b')
 (hK:∀tl,K ([(0,.own 3 g 0 len),(1,.int .i64 a'),(2,.int .i64 b'),(3,.int .i64 limit),(4,.fn 77 []),(10,.bool wb),(11,.bool wp),(12,.int .i64 (b'-a':Nat)),(13,.int .i64 p)]++tl) ⟨[AX,BA,BJ,.arr g 2 nn cl (vs A8 D.toList),BN],c⟩)
 (hQ:∀c' mid (E:Array (Int×Int)),a'<mid→mid≤b'→E.size=len→Below CU mid b' E→(∀ R,PermIn mid b' E R→SortedIn CU mid b' R→PermIn a' b' D R∧SortedIn CU a' b' R)→
   Q (.exit 1) [(0,.own 3 g 0 len),(1,.int .i64 mid),(2,.int .i64 b'),(3,.int .i64 limit),(4,.fn 77 []),(10,.bool wb),(11,.bool wp)] ⟨[AX,BA,BJ,.arr g 2 nn cl (vs A8 E.toList),BN],c'⟩):
 vC (Ac tab) (G6 Aeb) ([(0,.own 3 g 0 len),(1,.int .i64 a'),(2,.int .i64 b'),(3,.int .i64 limit),(4,.fn 77 []),(10,.bool wb),(11,.bool wp),(12,.int .i64 (b'-a':Nat)),(13,.int .i64 p)]++tl) ⟨[AX,BA,BJ,.arr g 2 nn cl (vs A8 D.toList),BN],c⟩ (SE K Q):=by
 (conv=>whnf);repeat' (first|exact hK _|((with_reducible show BX _ _ _);refine GI (a'-1) ?_;conv=>whnf)|((with_reducible show BX _ _ _);refine GI (p) ?_;conv=>whnf)|(refine Aa ET ?_;rintro _ rfl;conv=>whnf)|(refine Gh (fun hc=>?_) (fun hc=>?_)<;>conv=>whnf)|(refine kA ?_;conv=>whnf)|(refine Br.mk (fun hc=>?_) fun hc=>?_<;>first|exact hc.elim|conv=>whnf)|(refine kB ?_))
 refine(AhE hD hb hp1 hp2 hs).mono ?_
 rintro _ _ ⟨c1,rfl,rfl⟩
 generalize hx:partitionEqual CU D a' b' p=R
 obtain⟨mid,E⟩:=R
 obtain⟨m1,m2,hE,hBr,fin⟩:=round_eq Nr (partitionEqual_holds CU) (by omega) hp1 hp2 (by omega) hB hc hx
 dsimp only
 conv=>whnf
 apply Aj rfl
 (conv=>whnf);repeat' (first  |(refine kA ?_;conv=>whnf)|(refine Br.mk (fun hc=>?_) fun hc=>?_<;>first|exact hc.elim|conv=>whnf)|(refine kB ?_))
 exact hQ _ mid E m1 m2 (by omega) hBr fin
theorem AgA {tl:Env} (hs:len<2^61) {a' b' c p:Nat} {limit h:Int} {wb wp:Bool} {D:Array (Int×Int)} {K:Env→Ag→Prop} {Q:Ar→Env→Ag→Prop} (hab:a'+12<b') (hb:b'≤len) (hD:D.size=len) (hB:Below CU a' b' D)
 (hK:∀tl c (E:Array (Int×Int)),PermIn a' b' D E→K ([(0,.own 3 g 0 len),(1,.int .i64 a'),(2,.int .i64 b'),(3,.int .i64 limit),(4,.fn 77 []),(10,.bool wb),(11,.bool wp),(12,.int .i64 (b'-a':Nat)),(13,.int .i64 p)]++tl) ⟨[AX,BA,BJ,.arr g 2 nn cl (vs A8 E.toList),BN],c⟩)
 (hQ:∀c (E:Array (Int×Int)) env,PermIn a' b' D E→SortedIn CU a' b' E→Q .ret env ⟨[AX,BA,BJ,.arr g 2 nn cl (vs A8 E.toList),BN],c⟩):
 vC (Ac tab) (G6 Aea) ([(0,.own 3 g 0 len),(1,.int .i64 a'),(2,.int .i64 b'),(3,.int .i64 limit),(4,.fn 77 []),(10,.bool wb),(11,.bool wp),(12,.int .i64 (b'-a':Nat)),(13,.int .i64 p),(14,.int .i64 h)]++tl) ⟨[AX,BA,BJ,.arr g 2 nn cl (vs A8 D.toList),BN],c⟩ (SE K Q):=by
 (conv=>whnf);repeat' (first|exact hK _ _ _ (permIn_refl _ _ _)|(refine kA ?_;conv=>whnf)|(refine Br.mk (fun hc=>?_) fun hc=>?_<;>first|exact hc.elim|conv=>whnf)|(refine kB ?_))
 refine(AfF hD hb (by omega) hs).mono ?_
 rintro _ _ ⟨c1,rfl,rfl⟩
 have hp:=partialInsertionSort_holds Nr D a' b' (by omega) (by omega) hB
 generalize partialInsertionSort CU D a' b'=R at hp
 obtain⟨E,r⟩:=R
 obtain⟨q1,q2⟩:=hp
 dsimp only at q1 q2 ⊢
 conv=>whnf
 apply Aj rfl
 cases r with
 |true=>
  (conv=>whnf);repeat' (first  |(refine kA ?_;conv=>whnf)|(refine Br.mk (fun hc=>?_) fun hc=>?_<;>first|exact hc.elim|conv=>whnf)|(refine kB ?_))
  exact hQ _ E _ q1 (q2 rfl)
 |false=>
  (conv=>whnf);repeat' (first|exact hK _ _ _ q1|(refine kA ?_;conv=>whnf)|(refine Br.mk (fun hc=>?_) fun hc=>?_<;>first|exact hc.elim|conv=>whnf)|(refine kB ?_))
theorem AgB {tl:Env} (hs:len<2^61) {a' b' c p:Nat} {limit h:Int} {wb wp:Bool} {D:Array (Int×Int)} {K:Env→Ag→Prop} {Q:Ar→Env→Ag→Prop} (hab:a'+12<b') (hb:b'≤len) (hD:D.size=len) (hp1:a'≤p) (hp2:p<b')
 (hK:∀tl c (p:Nat) h (E:Array (Int×Int)),PermIn a' b' D E→a'≤p→p<b'→K ([(0,.own 3 g 0 len),(1,.int .i64 a'),(2,.int .i64 b'),(3,.int .i64 limit),(4,.fn 77 []),(10,.bool wb),(11,.bool wp),(12,.int .i64 (b'-a':Nat)),(13,.int .i64 p),(14,.int .i64 h)]++tl) ⟨[AX,BA,BJ,.arr g 2 nn cl (vs A8 E.toList),BN],c⟩):
 vC (Ac tab) (G6 (D7 (D7 SC))) ([(0,.own 3 g 0 len),(1,.int .i64 a'),(2,.int .i64 b'),(3,.int .i64 limit),(4,.fn 77 []),(10,.bool wb),(11,.bool wp),(12,.int .i64 (b'-a':Nat)),(13,.int .i64 p),(14,.int .i64 h)]++tl) ⟨[AX,BA,BJ,.arr g 2 nn cl (vs A8 D.toList),BN],c⟩ (SE K Q):=by
 (conv=>whnf);repeat' (first|exact hK _ _ _ _ _ (permIn_refl _ _ _) hp1 hp2|(refine kA ?_;conv=>whnf)|(refine Br.mk (fun hc=>?_) fun hc=>?_<;>first|exact hc.elim|conv=>whnf)|(refine kB ?_))
 refine(Aiv hD hb (by omega) hs).mono ?_
 rintro _ _ ⟨c1,E,rfl,rfl,q1⟩
 conv=>whnf
 apply Aj rfl
 have e:(b':Int)-1-((p:Int)-a')=((b'-1-(p-a'):Nat):Int):=by omega
 have hK':=fun tl=>hK tl c1 (b'-1-(p-a')) 1 E q1 (by omega) (by omega)
 rw[← e]at hK'
 (conv=>whnf);repeat' (first|exact hK' _|(refine kA ?_;conv=>whnf)|(refine Br.mk (fun hc=>?_) fun hc=>?_<;>first|exact hc.elim|conv=>whnf)|(refine kB ?_))
theorem AgC {tl:Env} (hs:len<2^61) {a' b' c:Nat} {limit:Int} {wb wp:Bool} {D:Array (Int×Int)} {K:Env→Ag→Prop} {Q:Ar→Env→Ag→Prop} (hab:a'+12<b') (hb:b'≤len) (hD:D.size=len)
 (hK:∀tl c (p:Nat) h,a'≤p→p<b'→K ([(0,.own 3 g 0 len),(1,.int .i64 a'),(2,.int .i64 b'),(3,.int .i64 limit),(4,.fn 77 []),(10,.bool wb),(11,.bool wp),(12,.int .i64 (b'-a':Nat)),(13,.int .i64 p),(14,.int .i64 h)]++tl) ⟨[AX,BA,BJ,.arr g 2 nn cl (vs A8 D.toList),BN],c⟩):
 vC (Ac tab) (G6 (D7 SC)) ([(0,.own 3 g 0 len),(1,.int .i64 a'),(2,.int .i64 b'),(3,.int .i64 limit),(4,.fn 77 []),(10,.bool wb),(11,.bool wp),(12,.int .i64 (b'-a':Nat))]++tl) ⟨[AX,BA,BJ,.arr g 2 nn cl (vs A8 D.toList),BN],c⟩ (SE K Q):=by
 (conv=>whnf);repeat' (first  |(refine kA ?_;conv=>whnf)|(refine Br.mk (fun hc=>?_) fun hc=>?_<;>first|exact hc.elim|conv=>whnf)|(refine kB ?_))
 refine(Aiw hD hb hab hs).mono ?_
 rintro _ _ ⟨c1,p,h,ob,rfl,rfl,q1,q2⟩
 conv=>whnf
 apply Aj rfl
 (conv=>whnf);repeat' (first|exact hK _ _ _ _ q1 q2|(refine kA ?_;conv=>whnf)|(refine Br.mk (fun hc=>?_) fun hc=>?_<;>first|exact hc.elim|conv=>whnf)|(refine kB ?_))
theorem AgD {tl:Env} (hs:len<2^61) {a' b' c:Nat} {limit:Int} {wb wp:Bool} {D:Array (Int×Int)} {K:Env→Ag→Prop} {Q:Ar→Env→Ag→Prop} (hab:a'+12<b') (hb:b'≤len) (hD:D.size=len) (hlim:0<limit)
 (hK:∀tl c wb limit (E:Array (Int×Int)),0≤limit→limit<2^62→PermIn a' b' D E→K ([(0,.own 3 g 0 len),(1,.int .i64 a'),(2,.int .i64 b'),(3,.int .i64 limit),(4,.fn 77 []),(10,.bool wb),(11,.bool wp),(12,.int .i64 (b'-a':Nat))]++tl) ⟨[AX,BA,BJ,.arr g 2 nn cl (vs A8 E.toList),BN],c⟩) (KU:limit<2^62):
 vC (Ac tab) (G6 SC) ([(0,.own 3 g 0 len),(1,.int .i64 a'),(2,.int .i64 b'),(3,.int .i64 limit),(4,.fn 77 []),(10,.bool wb),(11,.bool wp),(12,.int .i64 (b'-a':Nat))]++tl) ⟨[AX,BA,BJ,.arr g 2 nn cl (vs A8 D.toList),BN],c⟩ (SE K Q):=by
 cases wb with
 |true=>(conv=>whnf);repeat' (first|exact hK _ _ _ _ _ (by omega) (by omega) (permIn_refl _ _ _)|(refine kA ?_;conv=>whnf)|(refine Br.mk (fun hc=>?_) fun hc=>?_<;>first|exact hc.elim|conv=>whnf)|(refine kB ?_))
 |false=>
  (conv=>whnf);repeat' (first  |(refine kA ?_;conv=>whnf)|(refine Br.mk (fun hc=>?_) fun hc=>?_<;>first|exact hc.elim|conv=>whnf)|(refine kB ?_))
  refine(Aix hD hb hab hs).mono ?_
  rintro _ _ ⟨c1,E,ob,rfl,rfl,q1⟩
  conv=>whnf
  apply Aj rfl
  (conv=>whnf);repeat' (first|exact hK _ _ _ _ _ (by omega) (by omega) q1|(refine kA ?_;conv=>whnf)|(refine Br.mk (fun hc=>?_) fun hc=>?_<;>first|exact hc.elim|conv=>whnf)|(refine kB ?_))
theorem AgE {a' b' c:Nat} {limit:Int} {wb wp:Bool} {D:Array (Int×Int)} {K:Env→Ag→Prop} {Q:Ar→Env→Ag→Prop} (hs:len<2^61) (hab:a'≤b') (hb:b'≤len)
 (hK:∀tl,K ([(0,.own 3 g 0 len),(1,.int .i64 a'),(2,.int .i64 b'),(3,.int .i64 limit),(4,.fn 77 []),(10,.bool wb),(11,.bool wp),(12,.int .i64 (b'-a':Nat))]++tl) ⟨[AX,BA,BJ,.arr g 2 nn cl (vs A8 D.toList),BN],c⟩):
 vC (Ac tab) (G6 (L8 l97_0_b)) [(0,.own 3 g 0 len),(1,.int .i64 a'),(2,.int .i64 b'),(3,.int .i64 limit),(4,.fn 77 []),(10,.bool wb),(11,.bool wp)] ⟨[AX,BA,BJ,.arr g 2 nn cl (vs A8 D.toList),BN],c⟩ (SE K Q):=by
 rw[show ((b'-a':Nat):Int)=(b':Int)-a' by omega]at hK
 (conv=>whnf);repeat' (first|exact hK []|(refine kA ?_;conv=>whnf)|(refine Br.mk (fun hc=>?_) fun hc=>?_<;>first|exact hc.elim|conv=>whnf)|(refine kB ?_))
theorem AgF {tl:Env} (hs:len<2^61) {a' b' c:Nat} {limit:Int} {wb wp:Bool} {D:Array (Int×Int)} {K:Env→Ag→Prop} {Q:Ar→Env→Ag→Prop} (hab:a'≤b') (hb:b'≤len) (hD:D.size=len)
 (hK:∀tl c,a'+12<b'→K ([(0,.own 3 g 0 len),(1,.int .i64 a'),(2,.int .i64 b'),(3,.int .i64 limit),(4,.fn 77 []),(10,.bool wb),(11,.bool wp),(12,.int .i64 (b'-a':Nat))]++tl) ⟨[AX,BA,BJ,.arr g 2 nn cl (vs A8 D.toList),BN],c⟩)
 (hQ:∀c (E:Array (Int×Int)) env,PermIn a' b' D E→SortedIn CU a' b' E→Q .ret env ⟨[AX,BA,BJ,.arr g 2 nn cl (vs A8 E.toList),BN],c⟩):
 vC (Ac tab) (G6 (D7 (L8 l97_0_b))) ([(0,.own 3 g 0 len),(1,.int .i64 a'),(2,.int .i64 b'),(3,.int .i64 limit),(4,.fn 77 []),(10,.bool wb),(11,.bool wp),(12,.int .i64 (b'-a':Nat))]++tl) ⟨[AX,BA,BJ,.arr g 2 nn cl (vs A8 D.toList),BN],c⟩ (SE K Q):=by
 (conv=>whnf);repeat' (first|exact hK _ _ (by omega)|(refine kA ?_;conv=>whnf)|(refine Br.mk (fun hc=>?_) fun hc=>?_<;>first|exact hc.elim|conv=>whnf)|(refine kB ?_))
 refine(Aiy hD hb hs (by omega)).mono ?_
 rintro _ _ ⟨c1,rfl,rfl⟩
 conv=>whnf
 apply Aj rfl
 (conv=>whnf);repeat' (first  |(refine kA ?_;conv=>whnf)|(refine Br.mk (fun hc=>?_) fun hc=>?_<;>first|exact hc.elim|conv=>whnf)|(refine kB ?_))
 obtain⟨q1,q2⟩:=insertionSort_holds Nr D a' b' hab (by omega)
 exact hQ _ _ _ q1 q2
theorem Aec {tl:Env} (hs:len<2^61) {a' b' c:Nat} {limit:Int} {wb wp:Bool} {D:Array (Int×Int)} {K:Env→Ag→Prop} {Q:Ar→Env→Ag→Prop} (hab:a'+12<b') (hb:b'≤len) (hD:D.size=len) (hlim:0≤limit)
 (hK:∀tl c,0<limit→K ([(0,.own 3 g 0 len),(1,.int .i64 a'),(2,.int .i64 b'),(3,.int .i64 limit),(4,.fn 77 []),(10,.bool wb),(11,.bool wp),(12,.int .i64 (b'-a':Nat))]++tl) ⟨[AX,BA,BJ,.arr g 2 nn cl (vs A8 D.toList),BN],c⟩)
 (hQ:∀c (E:Array (Int×Int)) env,PermIn a' b' D E→SortedIn CU a' b' E→Q .ret env ⟨[AX,BA,BJ,.arr g 2 nn cl (vs A8 E.toList),BN],c⟩):
 vC (Ac tab) (G6 (D7 (D7 (L8 l97_0_b)))) ([(0,.own 3 g 0 len),(1,.int .i64 a'),(2,.int .i64 b'),(3,.int .i64 limit),(4,.fn 77 []),(10,.bool wb),(11,.bool wp),(12,.int .i64 (b'-a':Nat))]++tl) ⟨[AX,BA,BJ,.arr g 2 nn cl (vs A8 D.toList),BN],c⟩ (SE K Q):=by
 (conv=>whnf);repeat' (first|exact hK _ _ (by omega)|(refine kA ?_;conv=>whnf)|(refine Br.mk (fun hc=>?_) fun hc=>?_<;>first|exact hc.elim|conv=>whnf)|(refine kB ?_))
 refine(AgG hD hb hs (by omega)).mono ?_
 rintro _ _ ⟨c1,rfl,rfl⟩
 conv=>whnf
 apply Aj rfl
 (conv=>whnf);repeat' (first  |(refine kA ?_;conv=>whnf)|(refine Br.mk (fun hc=>?_) fun hc=>?_<;>first|exact hc.elim|conv=>whnf)|(refine kB ?_))
 obtain⟨q1,q2⟩:=heapSort_holds Nr D a' b' (by omega) (by omega)
 exact hQ _ _ _ q1 q2
theorem Aed (hs:len<2^61) (ih:∀x y,y-x<b-a→YU AX BA BJ BN g len nn cl x y) {a' b' c:Nat} {limit:Int} {wb wp:Bool} {D:Array (Int×Int)} (hab:a'≤b') (hb:b'≤len) (hle:b'-a'≤b-a) (hlim:0≤limit) (KU:limit<2^62) (hD:D.size=len) (hB:Below CU a' b' D)
 (hR:∀R,PermIn a' b' D R→SortedIn CU a' b' R→PermIn a b d R∧SortedIn CU a b R):
 vC (Ac tab) (L8 l97_0_b) [(0,.own 3 g 0 len),(1,.int .i64 a'),(2,.int .i64 b'),(3,.int .i64 limit),(4,.fn 77 []),(10,.bool wb),(11,.bool wp)] ⟨[AX,BA,BJ,.arr g 2 nn cl (vs A8 D.toList),BN],c⟩ (TI AX BA BJ BN g len nn cl a b d (b'-a')):=by
 have hret:∀c (E:Array (Int×Int)) env,PermIn a b d E→SortedIn CU a b E→TI AX BA BJ BN g len nn cl a b d (b'-a') .ret env ⟨[AX,BA,BJ,.arr g 2 nn cl (vs A8 E.toList),BN],c⟩:=by
  intro c E env h1 h2
  unfold TI
  conv=>whnf
  apply Aj rfl
  exact⟨_,E,rfl,rfl,h1,h2⟩
 refine KW (a:=G6 (L8 l97_0_b)) (b:=D7 (L8 l97_0_b)) (AgE hs hab hb fun tl1=>?_)
 refine KW (a:=G6 (D7 (L8 l97_0_b))) (b:=D7 (D7 (L8 l97_0_b))) (AgF hs hab hb hD (fun tl2 c2 h12=>?_) fun c E env h1 h2=>hret c E env (hR E h1 h2).1 (hR E h1 h2).2)
 refine KW (a:=G6 (D7 (D7 (L8 l97_0_b)))) (b:=SC) (Aec hs h12 hb hD hlim (fun tl3 c3 hl0=>?_) fun c E env h1 h2=>hret c E env (hR E h1 h2).1 (hR E h1 h2).2)
 refine KW (a:=G6 SC) (b:=D7 SC) (AgD hs h12 hb hD hl0 (fun tl4 c4 wb4 AkE E4 hl4 Aiz p4=>?_) KU)
 have hD4:E4.size=len:=by rw[p4.1,hD]
 refine KW (a:=G6 (D7 SC)) (b:=D7 (D7 SC)) (AgC hs h12 hb hD4 fun tl5 c5 p h hp1 hp2=>?_)
 refine KW (a:=G6 (D7 (D7 SC))) (b:=Aea) (AgB hs h12 hb hD4 hp1 hp2 fun tl6 c6 p6 h6 E6 q6 AiA AiB=>?_)
 have p6':=permIn_trans _ _ _ _ _ p4 q6
 have hD6:E6.size=len:=by rw[p6'.1,hD]
 have hB6:=hB.perm (by omega) p6'
 refine KW (a:=G6 Aea) (b:=Aeb) (AgA hs h12 hb hD6 hB6 (fun tl7 c7 E7 q7=>?_) fun c E env h1 h2=>hret c E env (hR E (permIn_trans _ _ _ _ _ p6' h1) h2).1 (hR E (permIn_trans _ _ _ _ _ p6' h1) h2).2)
 have p7:=permIn_trans _ _ _ _ _ p6' q7
 have hD7:E7.size=len:=by rw[p7.1,hD]
 have hB7:=hB.perm (by omega) p7
 have hR7:∀R,PermIn a' b' E7 R→SortedIn CU a' b' R→PermIn a b d R∧SortedIn CU a b R:=fun R h1 h2=>hR R (permIn_trans _ _ _ _ _ p7 h1) h2
 refine KW (a:=G6 Aeb) (b:=Aiu) (Agz hs h12 hb hD7 hB7 AiA AiB (fun tl8=>Agy hs ih h12 hb hle hl4 Aiz hD7 hB7 hR7 AiA AiB) fun c' mid E m1 m2 hE hBE fin=>?_)
 unfold TI
 conv=>whnf
 exact again.mk ⟨_,by omega,mid,b',_,AkE,_,_,E,rfl,by omega,hb,by omega,hl4,Aiz,hE,hBE,fun R h1 h2=>hR7 R (fin R h1 h2).1 (fin R h1 h2).2,rfl,rfl⟩
end
theorem AiD {AX BA BJ BN:Obj} {g len:Nat} {nn cl:Bool} (hs:len<2^61):∀n a b,b-a≤n→YU AX BA BJ BN g len nn cl a b:=by
 intro n
 induction n using Nat.strongRecOn with
 |ind n IH=>
  intro a b hn
  have ih:∀x y,y-x<b-a→YU AX BA BJ BN g len nn cl x y:=fun x y h=>IH (y-x) (by omega) x y (Nat.le_refl _)
  clear IH hn
  intro c limit d hd hb hab hlim KU hB
  refine AL rfl rfl ?_
  (conv=>whnf);repeat' (first  |(refine kA ?_;conv=>whnf)|(refine Br.mk (fun hc=>?_) fun hc=>?_<;>first|exact hc.elim|conv=>whnf)|(refine kB ?_))
  refine Ah (Afg AX BA BJ BN g len nn cl a b d) ?_ _ _ _ ⟨a,b,_,limit,true,true,d,rfl,hab,hb,Nat.le_refl _,hlim,KU,hd,hB,fun R h1 h2=>⟨h1,h2⟩,rfl,rfl⟩
  rintro _ _ _ ⟨a',b',c,limit,wb,wp,D,rfl,hab',hb',hle,hlim,KU,hD,hB',hR,rfl,rfl⟩
  refine⟨rfl,?_⟩
  exact Aed hs ih hab' hb' hle hlim KU hD hB' hR
theorem Aee {AX BA BJ BN:Obj} {g len c:Nat} {nn cl:Bool} {L:List (Int×Int)} (hl:L.length=len) (hs:len<2^61) {limit:Int} (h0:0≤limit) (h1:limit<2^62):
 AY (Ac tab) 97 [.own 3 g 0 len,.int .i64 0,.int .i64 len,.int .i64 limit,.fn 77 []] ⟨[AX,BA,BJ,.arr g 2 nn cl (vs A8 L),BN],c⟩ fun out s'=>∃c' W,out=.ok (.Du [])∧s'=⟨[AX,BA,BJ,.arr g 2 nn cl (vs A8 W),BN],c'⟩∧W.Perm L∧W.Pairwise (fun x y=>CU y x=false):=by
 have:=AiD (AX:=AX) (BA:=BA) (BJ:=BJ) (BN:=BN) (g:=g) (nn:=nn) (cl:=cl) hs len 0 len (by omega) c limit L.toArray (by simpa using hl) (Nat.le_refl _) (by omega) h0 h1 (Or.inl rfl)
 refine this.mono ?_
 rintro _ _ ⟨c',D,rfl,rfl,p1,p2⟩
 refine⟨c',D.toList,rfl,rfl,Aef hl p1,Z7 (by rw[p1.1];simpa using hl) p2⟩
end
section
open Go.Sort
theorem AgR {AX BA BJ BN:Obj} {g len c:Nat} {nn cl:Bool} {L:List (Int×Int)} (hl:L.length=len) (hs:len<2^61):
 AY (Ac tab) 76 [.own 3 g 0 len,.fn 77 []] ⟨[AX,BA,BJ,.arr g 2 nn cl (vs A8 L),BN],c⟩ fun out s'=>∃c' W,out=.ok (.Du [])∧s'=⟨[AX,BA,BJ,.arr g 2 nn cl (vs A8 W),BN],c'⟩∧W.Perm L∧W.Pairwise (fun x y=>CU y x=false):=by
 have hb:bitsLen len≤62:=(bitsLen_le_iff len 62).2 (by omega)
 refine AL rfl rfl ?_
 (conv=>whnf);repeat' (first|(refine wrapN len rfl rfl (by show _<2^64;omega) ?_;conv=>whnf)|(refine Aa (WE (n:=len) (by omega)) ?_;rintro _ rfl;conv=>whnf)|(refine kA ?_;conv=>whnf)|(refine Br.mk (fun hc=>?_) fun hc=>?_<;>first|exact hc.elim|conv=>whnf)|(refine kB ?_))
 refine(Aee hl hs (by omega) (by omega)).mono ?_
 rintro _ _ ⟨c',W,rfl,rfl,h1,h2⟩
 conv=>whnf
 apply Aj rfl
 (conv=>whnf);repeat' (first  |(refine kA ?_;conv=>whnf)|(refine Br.mk (fun hc=>?_) fun hc=>?_<;>first|exact hc.elim|conv=>whnf)|(refine kB ?_))
 exact⟨_,W,rfl,rfl,h1,h2⟩
end
def Fg (c:Int):Prop:=(97≤c∧c≤122)∨(65≤c∧c≤90)
instance (c:Int):Decidable (Fg c):=by unfold Fg;infer_instance
theorem Zj {c:Int}:AQ (Ac tab) 67 [.int .u8 c] (· =.bool (decide (Fg c))):=by
 refine Ai rfl rfl ?_
 (conv=>whnf);repeat' (first|(refine kA ?_;conv=>whnf)|(refine Br.mk (fun hc=>?_) fun hc=>?_<;>first|exact hc.elim|conv=>whnf)  |(refine kB ?_))
 all_goals first|exact GK (by unfold Fg;omega)|exact EI (by unfold Fg;omega)
def Nk (c:Int):Prop:=Fg c∨(48≤c∧c≤57)∨c=95
instance (c:Int):Decidable (Nk c):=by unfold Nk;infer_instance
def isName (s:List UInt8):Prop:=0<s.length∧s.length≤20∧(∀ c,s[0]?=some c→Fg c.toNat)∧∀c∈s,Nk c.toNat
instance (s:List UInt8):Decidable (isName s):=by unfold isName;infer_instance
theorem SQ {s:List UInt8} (hs:0<s.length) (h:isName s):Fg s[0].toNat:=h.2.2.1 _ (List.getElem?_eq_getElem hs)
theorem AaD {s:List UInt8} {i:Nat} (hi:i<s.length) (h:isName s):Nk s[i].toNat:=h.2.2.2 _ (List.getElem_mem _)
theorem name1 {s:List UInt8} (hl:s.length<2^63):AQ (Ac tab) 37 [.str s] (· =.bool (decide (isName s))):=by
 by_cases h0:s.length=0
 ·obtain rfl:s=[]:=List.length_eq_zero_iff.1 h0
  refine Ai rfl rfl ?_
  (conv=>whnf);repeat' (first|(refine kA ?_;conv=>whnf)|(refine Br.mk (fun hc=>?_) fun hc=>?_<;>first|exact hc.elim|conv=>whnf)  |(refine kB ?_))
  all_goals exact EI (by simp[isName])
 have hs:0<s.length:=by omega
 have hne:s≠[]:=by rintro rfl;simp at h0
 have hz:s[0]?=some s[0]:=List.getElem?_eq_getElem hs
 refine Ai rfl rfl ?_
 (conv=>whnf);repeat' (first|(refine kA ?_;conv=>whnf)|(refine Br.mk (fun hc=>?_) fun hc=>?_<;>first|exact hc.elim|conv=>whnf)|(refine Gu (Zj) (fun hc=>?_) (fun hc=>?_)<;>conv=>whnf)|(refine kB ?_))
 all_goals first|exact absurd hc hne|exact EI (by unfold isName;omega)|exact EI fun h=>hc (SQ hs h)|skip
 refine Ah (fun m env s'=>∃i:Nat,m=s.length-i∧env=[(0,.str s),(18,.int .i64 s.length),(19,.int .i64 i)]∧s'=⟨[],0⟩∧∀c∈s.take i,Nk c.toNat) ?_ _ _ _ ⟨0,rfl,by simp,rfl,by simp⟩
 rintro _ _ _ ⟨i,rfl,rfl,rfl,hx⟩
 refine⟨rfl,?_⟩
 (conv=>whnf);repeat' (first|(refine kA ?_;conv=>whnf)|(refine Br.mk (fun hc=>?_) fun hc=>?_<;>first|exact hc.elim|conv=>whnf)|(refine Gu (Zj) (fun hc=>?_) (fun hc=>?_)<;>conv=>whnf)|(refine kB ?_))
 all_goals first
  |exact again.mk ⟨_,by omega,i+1,rfl,rfl,rfl,CX (by omega) hx (by unfold Nk Fg at *;omega)⟩
  |(refine EI fun h=>?_;have:=AaD (i:=i) (by omega) h;unfold Nk Fg at *;omega)
  |(rename_i hc1;exact GK ⟨hs,by omega,fun c h=>by rw[hz]at h;cases h;assumption,by rw[EJ hc]at hx;exact hx⟩)
theorem ZB {AP:Nat→Option GY} {f:Nat} {sp:List AV→Ag→Option (AU×Ag)} {args:List AV} {R:AV→Prop} {v v':AV} {s:Ag} (hf:AP f=some (.ext sp)) (h:sp args ⟨[],0⟩=some (.ok v,s)) (hs:snap s.σ Hw v=some v') (hR:R v'):AQ AP f args R:=
 ⟨v',⟨1,by simp only[Dv,run,hf,h];exact hs⟩,hR⟩
theorem ixP {l:List UInt8}:AQ (Ac tab) 136 [.str l,.fn 137 []] (· =.int .i64 (Jg l)):=
 ZB rfl rfl rfl rfl
theorem Nu {l:List UInt8}:Jg l<0↔∀c∈l,Qr c=false:=by
 unfold Jg
 cases h:List.findIdx? Qr l with
 |none=>
  refine⟨fun _ c hc=>?_,fun _=>by decide⟩
  have:=List.findIdx?_eq_none_iff.1 h c hc
  simpa using this
 |some i=>
  refine⟨fun h=>?_,fun ha=>?_⟩
  ·simp at h;omega
  ·obtain⟨h1,h2,_⟩:=List.findIdx?_eq_some_iff_getElem.1 h
   rw[ha _ (List.getElem_mem h1)]at h2
   cases h2
def inR (n:Int):Prop:=-1000000000000000≤n∧n≤1000000000000000
instance (n:Int):Decidable (inR n):=by unfold inR;infer_instance
theorem inP {n:Int}:AQ (Ac tab) 134 [.int .i64 n] (· =.bool (decide (inR n))):=by
 refine Ai rfl rfl ?_
 (conv=>whnf);repeat' (first|(refine kA ?_;conv=>whnf)|(refine Br.mk (fun hc=>?_) fun hc=>?_<;>first|exact hc.elim|conv=>whnf)  |(refine kB ?_))
 all_goals first|exact GK (by unfold inR;omega)|exact EI (by unfold inR;omega)
def okS (s:List UInt8):Prop:=s.length≤100∧∀c∈s,Qr c=false
instance (s:List UInt8):Decidable (okS s):=by unfold okS;infer_instance
def KA (v:GV):Prop:=v.d=0∧v.l.length=0∧(v.k=1∧v.s=[]∧(v.n=0∨v.n=1)∨v.k=2∧v.s=[]∧inR v.n∨v.k=4∧v.n=0∧okS v.s)
instance (v:GV):Decidable (KA v):=by unfold KA;infer_instance
def Nv (v:GV):Prop:=v.k=1∨v.k=2∨v.k=4
instance (v:GV):Decidable (Nv v):=by unfold Nv;infer_instance
theorem ZC {v:GV} (h:KA v):Nv v:=by unfold KA at h;unfold Nv;omega
theorem vld {v:GV} (hv:v.ok) (hk:Nv v) {n:Int}:AQ (Ac tab) 105 [v.av,.int .i64 n] (· =.bool (decide (KA v))):=by
 obtain⟨g1,g2,g3,g4,g5,g6,g7⟩:=hv
 unfold Ln at g4 g5
 unfold Nv at hk
 refine Ai rfl rfl ?_
 (conv=>whnf);repeat' (first|(refine kA ?_;conv=>whnf)|(refine Br.mk (fun hc=>?_) fun hc=>?_<;>first|exact hc.elim|conv=>whnf)|(refine Gu (inP (n:=v.n)) (fun hr=>?_) (fun hr=>?_)<;>conv=>whnf)|(refine Aa (ixP (l:=v.s)) ?_;rintro _ rfl;conv=>whnf)|(refine kB ?_))
 all_goals first
  |exact EI (fun h=>by have:=h.2.1;omega)
  |(refine GK ?_;clear g7 g6;unfold KA okS;rw[← Nu];first|(simp_all;done)|(simp_all;omega))
  |(refine EI ?_;clear g7 g6;unfold KA okS;rw[← Nu];first|(simp_all;done)|(simp_all;omega))
theorem AjF {v:GV} (hv:v.ok) (hk:Nv v):AQ (Ac tab) 89 [v.av] (· =.bool (decide (KA v))):=by
 refine Ai rfl rfl ?_
 (conv=>whnf);repeat' (first|(refine kA ?_;conv=>whnf)|(refine Br.mk (fun hc=>?_) fun hc=>?_<;>first|exact hc.elim|conv=>whnf)|(refine Gu (vld (v:=v) hv hk) (fun hr=>?_) (fun hr=>?_)<;>conv=>whnf)|(refine kB ?_))
 all_goals first|exact GK (by assumption)|exact EI (by assumption)
theorem Afx {v:GV} (hv:v.ok):AQ (Ac tab) 63 [v.av] (· =.bool (decide (KA v))):=by
 refine Ai rfl rfl ?_
 (conv=>whnf);repeat' (first|(refine kA ?_;conv=>whnf)|(refine Br.mk (fun hc=>?_) fun hc=>?_<;>first|exact hc.elim|conv=>whnf)|(refine Gu (AjF (v:=v) hv (by unfold Nv;omega)) (fun hr=>?_) (fun hr=>?_)<;>conv=>whnf)|(refine kB ?_))
 all_goals first|exact GK (by assumption)|exact EI (by assumption)|exact EI fun h=>absurd (ZC h) (by unfold Nv;omega)
def VF (n d:Int):Prop:=1≤d∧d≤1000000000000000∧inR n∧Nat.gcd n.natAbs d.natAbs=1
instance (n d:Int):Decidable (VF n d):=by unfold VF;infer_instance
def VB (g:GV):Prop:=g.l.length=0∧(g.k=0∧g.n=0∧g.d=0∧g.s=[]∨g.k=1∧(g.n=0∨g.n=1)∧g.d=0∧g.s=[]∨g.k=2∧inR g.n∧g.d=0∧g.s=[]∨
 g.k=3∧2≤g.d∧VF g.n g.d∧g.s=[]∨g.k=4∧g.n=0∧g.d=0∧okS g.s∨(g.k=5∨g.k=6)∧1≤g.n∧g.n≤1000000∧g.d=0∧g.s=[])
instance (g:GV):Decidable (VB g):=by unfold VB;infer_instance
theorem GV.I7 {g h:GV} (e:g.av=h.av):g=h:=by
 obtain⟨k,n,d,s,nn,l⟩:=g
 obtain⟨k',n',d',s',nn',l'⟩:=h
 simp only[GV.av,AV.agg.injEq,List.cons.injEq,AV.int.injEq,AV.str.injEq,AV.sl.injEq,true_and,and_true]at e
 obtain⟨rfl,rfl,rfl,rfl,rfl,rfl⟩:=e
 rfl
section
open Go.RowKit Go.Sort
structure Hold (p:Prop):Prop where
 h:p
section
variable {P:Program} {AP:Nat→Option GY} {n:Nat}
theorem AW.go (hS:∀N,Am P (run AP N)) (hm:P.follows .mixedOrders=true) {an:List Fb} {x y:Code} {a:AA} (hx:BP P n an x=some a) {env:Env} {s:Ag} {Q:Ar→Env→Ag→Prop} (h:vC AP a env s fun e env s=>Hold (AeY P n y Q e env s)):AW P n (.seq x y) env s Q:=
 AW.seq (AW.of_run hS hm hx ((Ir h).mono fun e env s k=>k.h))
theorem AW.fin (hS:∀N,Am P (run AP N)) (hm:P.follows .mixedOrders=true) {an:List Fb} {x:Code} {a:AA} (hx:BP P n an x=some a) {env:Env} {s:Ag} {Q:Ar→Env→Ag→Prop} (h:vC AP a env s fun e env s=>Hold (Q e env s)):AW P n x env s Q:=
 AW.of_run hS hm hx ((Ir h).mono fun e env s k=>k.h)
end
def Nl:Code→Code
 | .seq a _=>a
 |c=>c
def UQ:Code→Code
 | .seq _ b=>b
 |c=>c
def UR:AA→AA
 | .seq a _=>a
 |c=>c
def UU:AA→AA
 | .seq _ b=>b
 |c=>c
def Aej (f:Func):Code:=f.body.getD .skip
theorem UW:∀{S:List (Int×Nat)} {k:Int},(Bh (S.map pz) k=none↔k∉S.map (·.1))
 |[],k=>by simp[Bh]
 |p::S,k=>by
  have ih:=@UW S k
  simp only[List.map_cons,pz,Bh,List.mem_cons,not_or]
  split
  ·rename_i h;simp[h]
  ·rename_i h;simp[h,ih]
theorem Aab {M:List (Int×Int)} {k v:Int} (h:Bh M k=none):BO M k v=M++[(k,v)]:=by
 induction M with
 |nil=>rfl
 |cons p M ih=>
  obtain⟨a,b⟩:=p
  simp only[Bh]at h
  split at h
  ·cases h
  ·rename_i hk
   simp only[BO]
   rw[if_neg hk,ih h];rfl
set_option maxHeartbeats 2000000 in
theorem AiJ {g:GG} {types:List (List UInt8)} {tn:Bool} {dir:Int} {d:Nat} {seen:List (Int×Nat)} {N:List Int} {nb0:Bool} (hs:seen.length≤1000) (hN:Inc N) (hNl:N.length≤1000) (hd:d≤100000) {ga gm g1 c0:Nat} {fo:Bool} {Q:Ar→Env→Ag→Prop}
 (hQ:∀g1' n1 f1 c' tl,n1=(fresh seen N).length→Q (.exit 2) ([(9,.ref 1 ga 0 0),(10,.map 2 gm),(12,.int .i64 d),(13,.own 3 g1' 0 n1),(41,.sl nb0 (vi N)),(42,.int .i64 N.length),(43,.int .i64 N.length)]++tl) ⟨[.arr 0 4 true true [g.av],.arr ga 6 true true [fav g tn types dir],.mp gm true (DF ((seen++(fresh seen N).map fun x=>(x,d)).map pz)),.arr g1' 1 f1 true (vi (fresh seen N))],c'⟩):
 Run (Ac tab) (.loop l43_0_h l43_0_b) [(9,.ref 1 ga 0 0),(10,.map 2 gm),(12,.int .i64 d),(13,.own 3 g1 0 0),(41,.sl nb0 (vi N)),(42,.int .i64 N.length),(43,.int .i64 0)] ⟨[.arr 0 4 true true [g.av],.arr ga 6 true true [fav g tn types dir],.mp gm true (DF (seen.map pz)),.arr g1 1 fo true []],c0⟩ Q:=by
 refine Ah (fun m env s=>∃(i g1 n1 c:Nat) (f1:Bool) (F:List Int) (S:List (Int×Nat)),m=N.length-i∧i≤N.length∧F=fresh seen (N.take i)∧F.length≤i∧S=seen++F.map (fun x=>(x,d))∧n1=F.length∧env=[(9,.ref 1 ga 0 0),(10,.map 2 gm),(12,.int .i64 d),(13,.own 3 g1 0 n1),(41,.sl nb0 (vi N)),(42,.int .i64 N.length),(43,.int .i64 i)]∧s=⟨[.arr 0 4 true true [g.av],.arr ga 6 true true [fav g tn types dir],.mp gm true (DF (S.map pz)),.arr g1 1 f1 true (vi F)],c⟩) ?_ _ _ _ ⟨0,g1,0,c0,fo,[],seen,rfl,by omega,rfl,by simp,by simp,rfl,rfl,rfl⟩
 rintro _ _ _ ⟨i,g1,n1,c,f1,F,S,rfl,hi,hF,hFl,hS,hn1,rfl,rfl⟩
 refine⟨rfl,?_⟩
 by_cases hlt:i<N.length
 ·have hfs:=X4 (seen:=seen) hlt
  rw[← hF]at hfs
  have hiff:N[i]∈S.map (·.1)↔N[i]∈seen.map (·.1):=by
   rw[hS,List.map_append,List.mem_append]
   constructor
   ·rintro(k|k)
    ·exact k
    ·exfalso
     rw[List.map_map]at k
     obtain⟨x,hx,e⟩:=List.mem_map.1 k
     replace e:x=N[i]:=e
     rw[hF]at hx
     have hx2:=(List.mem_filter.1 hx).1
     obtain⟨j,hj,e2⟩:=List.getElem_of_mem hx2
     rw[List.length_take]at hj
     rw[List.getElem_take]at e2
     have:=List.pairwise_iff_getElem.1 hN j i (by omega) hlt (by omega)
     omega
   ·exact .inl
  by_cases hmm:N[i]∈seen.map (·.1)
  ·rw[if_pos hmm,List.append_nil]at hfs
   have hnn:¬Bh (S.map pz) N[i]=none:=fun k=>UW.1 k (hiff.2 hmm)
   (conv=>whnf);repeat' (first|(refine fkI (fun hm=>?_) (fun _ v hm=>?_)<;>conv=>whnf)|(refine kA ?_;conv=>whnf)|(refine Br.mk (fun hc=>?_) fun hc=>?_<;>first|exact hc.elim|conv=>whnf)|(refine kB ?_))
   all_goals first
        |exact absurd hm hnn
        |(exfalso;omega)
        |exact again.mk ⟨_,by omega,i+1,_,_,_,_,F,S,rfl,by omega,hfs.symm,by omega,hS,hn1,rfl,rfl⟩
  ·rw[if_neg hmm]at hfs
   have hnn:Bh (S.map pz) N[i]=none:=UW.2 fun k=>hmm (hiff.1 k)
   have hms:BO (S.map pz) N[i] (d:Int)=(S++[(N[i],d)]).map pz:=by rw[Aab hnn,List.map_append];rfl
   (conv=>whnf);repeat' (first|(refine fkI (fun hm=>?_) (fun _ v hm=>?_)<;>conv=>whnf)|(apply msI;rw[hms];conv=>whnf)|(refine Abe (f:=.int .i64) (l:=F) (x:=N[i]) XC hn1 (by omega) ?_;conv=>whnf)|(refine kA ?_;conv=>whnf)|(refine Br.mk (fun hc=>?_) fun hc=>?_<;>first|exact hc.elim|conv=>whnf)|(refine kB ?_))
   all_goals first
        |(rw [hnn]at hm;cases hm;done)
        |(exfalso;omega)
        |exact again.mk ⟨_,by omega,i+1,_,_,_,_,F++[N[i]],S++[(N[i],d)],rfl,by omega,hfs.symm,by simp;omega,by rw[hS];simp,by simp,rfl,rfl⟩
 ·rw[List.take_of_length_le (by omega)]at hF
  obtain rfl:i=N.length:=by omega
  subst hF hS
  (conv=>whnf);repeat' (first  |(refine kA ?_;conv=>whnf)|(refine Br.mk (fun hc=>?_) fun hc=>?_<;>first|exact hc.elim|conv=>whnf)|(refine kB ?_))
  all_goals first
   |(exfalso;omega)
   |exact hQ _ _ _ _ _ hn1
set_option maxHeartbeats 2000000 in
theorem AiK {g:GG} (hg:g.ok) (hE:g.edges.length≤100) {types:List (List UInt8)} {tn:Bool} (ht:types.length<2^63) {dir a:Int} {ga gm c0:Nat} {Q:Ar→Env→Ag→Prop}
 (hQ:∀d seen c' tl,SB (N9 types dir g.edges) a d seen []→Q (.exit 0) ([(9,.ref 1 ga 0 0),(10,.map 2 gm)]++tl) ⟨[.arr 0 4 true true [g.av],.arr ga 6 true true [fav g tn types dir],.mp gm true (DF (seen.map pz))],c'⟩):
 Run (Ac tab) (.loop l43_1_h l43_1_b) [(9,.ref 1 ga 0 0),(10,.map 2 gm),(11,.sl true (vi [a])),(12,.int .i64 1)] ⟨[.arr 0 4 true true [g.av],.arr ga 6 true true [fav g tn types dir],.mp gm true (DF [(a,0)])],c0⟩ Q:=by
 refine Ah (fun m env s=>∃(d c:Nat) (lb:Bool) (seen:List (Int×Nat)) (level:List Int),m=AbT seen level∧((level≠[]→d≤seen.length)∧d≤seen.length+1)∧SB (N9 types dir g.edges) a d seen level∧env=[(9,.ref 1 ga 0 0),(10,.map 2 gm),(11,.sl lb (vi level)),(12,.int .i64 d)]∧s=⟨[.arr 0 4 true true [g.av],.arr ga 6 true true [fav g tn types dir],.mp gm true (DF (seen.map pz))],c⟩) ?_ _ _ _ ⟨1,c0,true,[(a,0)],[a],rfl,⟨fun _=>by simp,by simp⟩,SB.start _ a,rfl,rfl⟩
 rintro _ _ _ ⟨d,c,lb,seen,level,rfl,hds,hB,rfl,rfl⟩
 refine⟨rfl,?_⟩
 have hsl:=hB.few
 have hll:=hB.Aac
 by_cases he:level=[]
 ·subst he
  (conv=>whnf);repeat' (first  |(refine kA ?_;conv=>whnf)|(refine Br.mk (fun hc=>?_) fun hc=>?_<;>first|exact hc.elim|conv=>whnf)|(refine kB ?_))
  all_goals first
   |(exfalso;simp at *;omega)
   |exact hQ d seen _ _ hB
 ·have hpos:0<level.length:=List.length_pos_iff.2 he
  obtain⟨_,⟨b,rfl⟩,hp⟩:=(AiL (g:=g) hg hE (types:=types) (tn:=tn) ht (dir:=dir) (l:=level) (nn:=lb) (by omega)).Xj
  have hNi:Inc (nextL (N9 types dir g.edges) level):=Qg
  have hNl:(nextL (N9 types dir g.edges) level).length≤1000:=by
   have:=YX hNi (U:=TF g.edges) fun x hx=>by
        obtain⟨y,_,h⟩:=(OQ _).1 hx
        exact Q8 h
   rw[Oa]at this
   omega
  have hless:=hB.less hE he
  have hst:=hB.step
  have hst2:=hst.few
  (conv=>whnf);repeat' (first|(refine Aa hp ?_;rintro _ rfl;conv=>whnf)|(refine kA ?_;conv=>whnf)|(refine Br.mk (fun hc=>?_) fun hc=>?_<;>first|exact hc.elim|conv=>whnf)|(refine kB ?_))
  all_goals first|(exfalso;omega)|skip
  refine AiJ (d:=d) (by omega) hNi hNl (by omega) fun g1' n1 f1 c' tl h2=>?_
  have hd1:=hds.1 he
  have hd2:fresh seen (nextL (N9 types dir g.edges) level)≠[]→d+1≤(seen++(fresh seen (nextL (N9 types dir g.edges) level)).map fun x=>(x,d)).length:=fun k=>by
   have:=List.length_pos_iff.2 k
   rw[List.length_append,List.length_map];omega
  have hd3:d+1≤(seen++(fresh seen (nextL (N9 types dir g.edges) level)).map fun x=>(x,d)).length+1:=by rw[List.length_append];omega
  generalize hF:fresh seen (nextL (N9 types dir g.edges) level)=F at*
  generalize hS:(seen++F.map fun x=>(x,d))=S at*
  (conv=>whnf);repeat' (first  |(refine kA ?_;conv=>whnf)|(refine Br.mk (fun hc=>?_) fun hc=>?_<;>first|exact hc.elim|conv=>whnf)|(refine kB ?_))
  all_goals first
   |(exfalso;omega)
   |(rw [h2,uV];exact again.mk ⟨_,hless,d+1,_,_,S,F,rfl,⟨hd2,hd3⟩,hst,rfl,rfl⟩)
   |exact again.mk ⟨_,hless,d+1,_,_,S,F,rfl,⟨hd2,hd3⟩,hst,rfl,rfl⟩
end
end AI
end Go.Proofs.YtjjhejbffgaabaaGreatDoor
