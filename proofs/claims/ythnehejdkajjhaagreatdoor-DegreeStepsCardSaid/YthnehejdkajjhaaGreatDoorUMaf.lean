/- Sorting in place (CmpFunc[int]): the whole. A sorted list without its repeated elements. Names: the program's and the reference's. value.Plain and the reference's Plain: which values may be stored. Names in a list, increasing strings, labels and properties. -/
import Derived.Test.YthnehejdkajjhaaGreatDoorUMae
import Derived.Test.YthnehejdkajjhaaGreatDoorUPgC
import Derived.Test.YthnehejdkajjhaaGreatDoorUMad
import Derived.Test.YthnehejdkajjhaaGreatDoorUMab
set_option linter.unusedVariables false
set_option maxRecDepth 4000
namespace Go.Proofs.YthnehejdkajjhaaGreatDoor
namespace AI
section
open Go.Sort
abbrev Aev (Ap CO:Obj) (g len:Nat) (nn cl:Bool) (a b:Nat):Prop:=∀(c:Nat) (limit:Int) (d:Array Int),d.size=len→b≤len→a≤b→0≤limit→limit<2^62→Below DN a b d→
 Am (Ac tab) 182 [.own 2 g 0 len,.int .i64 a,.int .i64 b,.int .i64 limit,.fn 102 []] ⟨[Ap,CO,.arr g 1 nn cl (vs (.int .i64) d.toList)],c⟩ fun out s'=>∃c' D,out=.ok (.BG [])∧s'=⟨[Ap,CO,.arr g 1 nn cl (vs (.int .i64) D.toList)],c'⟩∧PermIn a b d D∧SortedIn DN a b D
def FH:AY→AY
 | .seq _ b=>b
 |c=>c
def JK:AY→AY
 | .seq a _=>a
 |c=>c
def Qo:AY→AY
 | .block _ a=>a
 |c=>c
noncomputable def X3:AY:=FH (FH (FH (Qo l182_0_b)))
noncomputable def AlC:AY:=FH (FH (FH X3))
noncomputable def AlD:AY:=FH AlC
noncomputable def AsH:AY:=FH AlD
abbrev Am1 (Ap CO:Obj) (g len:Nat) (nn cl:Bool) (a b:Nat) (d:Array Int) (m:Nat) (env:Env) (s:Aq):Prop:=
 ∃(a' b' c:Nat) (limit:Int) (wb wp:Bool) (D:Array Int),m=b'-a'∧a'≤b'∧b'≤len∧b'-a'≤b-a∧0≤limit∧limit<2^62∧D.size=len∧Below DN a' b' D∧(∀ R,PermIn a' b' D R→SortedIn DN a' b' R→PermIn a b d R∧SortedIn DN a b R)∧
  env=[(0,.own 2 g 0 len),(1,.int .i64 a'),(2,.int .i64 b'),(3,.int .i64 limit),(4,.fn 102 []),(10,.bool wb),(11,.bool wp)]∧s=⟨[Ap,CO,.arr g 1 nn cl (vs (.int .i64) D.toList)],c⟩
section
variable {Ap CO:Obj} {g len:Nat} {nn cl:Bool} {a b:Nat} {d:Array Int}
def YN (Ap CO:Obj) (g len:Nat) (nn cl:Bool) (a b:Nat) (d:Array Int) (m:Nat):Aw→Env→Aq→Prop:=
 XU 1 (Afa l182_0_h (again (Am1 Ap CO g len nn cl a b d) m) (XU 0 (Aa0 a182 fun out s'=>∃c' D,out=.ok (.BG [])∧s'=⟨[Ap,CO,.arr g 1 nn cl (vs (.int .i64) D.toList)],c'⟩∧PermIn a b d D∧SortedIn DN a b D)))
set_option maxHeartbeats 2000000 in
theorem Apa {tl:Env} (hs:len<2^61) (ih:∀x y,y-x<b-a→Aev Ap CO g len nn cl x y) {a' b' c p:Nat} {limit:Int} {wb wp:Bool} {D:Array Int} (hab:a'+12<b') (hb:b'≤len) (hle:b'-a'≤b-a) (hlim:0≤limit) (CY:limit<2^62) (hD:D.size=len) (hB:Below DN a' b' D)
 (hR:∀R,PermIn a' b' D R→SortedIn DN a' b' R→PermIn a b d R∧SortedIn DN a b R) (hp1:a'≤p) (hp2:p<b'):
 vC (Ac tab) AsH ([(0,.own 2 g 0 len),(1,.int .i64 a'),(2,.int .i64 b'),(3,.int .i64 limit),(4,.fn 102 []),(10,.bool wb),(11,.bool wp),(12,.int .i64 (b'-a':Nat)),(13,.int .i64 p)]++tl) ⟨[Ap,CO,.arr g 1 nn cl (vs (.int .i64) D.toList)],c⟩ (YN Ap CO g len nn cl a b d (b'-a')):=by
 unfold YN
 (conv=>whnf);repeat' (first  |(refine kA ?_;conv=>whnf)|(refine Br.mk (fun hc=>?_) fun hc=>?_<;>first|exact hc.elim|conv=>whnf)|(refine kB ?_))
 refine(Asp hD hb hp1 hp2 hs).mono ?_
 rintro _ _ ⟨c1,rfl,rfl⟩
 generalize hx:partition DN D a' b' p=R
 obtain⟨mid,ap,E⟩:=R
 obtain⟨m1,m2,hE,hBl,hBr,fl,fr⟩:=round_part QT (partition_holds DN) hp1 hp2 (by omega) hB hx
 dsimp only
 conv=>whnf
 apply Ae rfl
 (conv=>whnf);repeat' (first|(refine F8 (b'-a') 8 (by omega) (by omega) ?_;conv=>whnf)|(refine kA ?_;conv=>whnf)|(refine Br.mk (fun hc=>?_) fun hc=>?_<;>first|exact hc.elim|conv=>whnf)|(refine kB ?_))
 all_goals first
  |(refine (ih a' mid (by omega) _ limit E (by omega) (by omega) m1 hlim CY hBl).mono ?_
    rintro _ _ ⟨c2,L,rfl,rfl,q1,q2⟩
    obtain⟨hBL,fin⟩:=fl L q1 q2
    conv=>whnf
    apply Ae rfl
    (conv=>whnf);repeat' (first  |(refine kA ?_;conv=>whnf)|(refine Br.mk (fun hc=>?_) fun hc=>?_<;>first|exact hc.elim|conv=>whnf)|(refine kB ?_))
    exact again.mk ⟨_,by omega,mid+1,b',_,limit,_,_,L,rfl,by omega,hb,by omega,hlim,CY,by rw[q1.1,hE,hD],hBL,fun R h1 h2=>hR R (fin R h1 h2).1 (fin R h1 h2).2,rfl,rfl⟩)
  |(refine (ih (mid+1) b' (by omega) _ limit E (by omega) hb (by omega) hlim CY hBr).mono ?_
    rintro _ _ ⟨c2,L,rfl,rfl,q1,q2⟩
    obtain⟨hBL,fin⟩:=fr L q1 q2
    conv=>whnf
    apply Ae rfl
    (conv=>whnf);repeat' (first  |(refine kA ?_;conv=>whnf)|(refine Br.mk (fun hc=>?_) fun hc=>?_<;>first|exact hc.elim|conv=>whnf)|(refine kB ?_))
    exact again.mk ⟨_,by omega,a',mid,_,limit,_,_,L,rfl,by omega,by omega,by omega,hlim,CY,by rw[q1.1,hE,hD],hBL,fun R h1 h2=>hR R (fin R h1 h2).1 (fin R h1 h2).2,rfl,rfl⟩)
theorem Apb {tl:Env} (hs:len<2^61) {a' b' c p:Nat} {limit:Int} {wb wp:Bool} {D:Array Int} {K:Env→Aq→Prop} {Q:Aw→Env→Aq→Prop} (hab:a'+12<b') (hb:b'≤len) (hD:D.size=len) (hB:Below DN a' b' D) (hp1:a'≤p) (hp2:p<b')
 (hK:∀tl,K ([(0,.own 2 g 0 len),(1,.int .i64 a'),(2,.int .i64 b'),(3,.int .i64 limit),(4,.fn 102 []),(10,.bool wb),(11,.bool wp),(12,.int .i64 (b'-a':Nat)),(13,.int .i64 p)]++tl) ⟨[Ap,CO,.arr g 1 nn cl (vs (.int .i64) D.toList)],c⟩)
 (hQ:∀c' mid (E:Array Int),a'<mid→mid≤b'→E.size=len→Below DN mid b' E→(∀ R,PermIn mid b' E R→SortedIn DN mid b' R→PermIn a' b' D R∧SortedIn DN a' b' R)→
   Q (.exit 1) [(0,.own 2 g 0 len),(1,.int .i64 mid),(2,.int .i64 b'),(3,.int .i64 limit),(4,.fn 102 []),(10,.bool wb),(11,.bool wp)] ⟨[Ap,CO,.arr g 1 nn cl (vs (.int .i64) E.toList)],c'⟩):
 vC (Ac tab) (JK AlD) ([(0,.own 2 g 0 len),(1,.int .i64 a'),(2,.int .i64 b'),(3,.int .i64 limit),(4,.fn 102 []),(10,.bool wb),(11,.bool wp),(12,.int .i64 (b'-a':Nat)),(13,.int .i64 p)]++tl) ⟨[Ap,CO,.arr g 1 nn cl (vs (.int .i64) D.toList)],c⟩ (GX K Q):=by
 (conv=>whnf);repeat' (first|exact hK _|((with_reducible show AB _ _ _);refine BM (a'-1) ?_;conv=>whnf)|((with_reducible show AB _ _ _);refine BM (p) ?_;conv=>whnf)|(refine Aa LQ ?_;rintro _ rfl;conv=>whnf)|(refine IL (fun hc=>?_) (fun hc=>?_)<;>conv=>whnf)|(refine kA ?_;conv=>whnf)|(refine Br.mk (fun hc=>?_) fun hc=>?_<;>first|exact hc.elim|conv=>whnf)|(refine kB ?_))
 refine(Asj hD hb hp1 hp2 hs).mono ?_
 rintro _ _ ⟨c1,rfl,rfl⟩
 generalize hx:partitionEqual DN D a' b' p=R
 obtain⟨mid,E⟩:=R
 obtain⟨m1,m2,hE,hBr,fin⟩:=round_eq QT (partitionEqual_holds DN) (by omega) hp1 hp2 (by omega) hB hc hx
 dsimp only
 conv=>whnf
 apply Ae rfl
 (conv=>whnf);repeat' (first  |(refine kA ?_;conv=>whnf)|(refine Br.mk (fun hc=>?_) fun hc=>?_<;>first|exact hc.elim|conv=>whnf)|(refine kB ?_))
 exact hQ _ mid E m1 m2 (by omega) hBr fin
theorem Apc {tl:Env} (hs:len<2^61) {a' b' c p:Nat} {limit h:Int} {wb wp:Bool} {D:Array Int} {K:Env→Aq→Prop} {Q:Aw→Env→Aq→Prop} (hab:a'+12<b') (hb:b'≤len) (hD:D.size=len) (hB:Below DN a' b' D)
 (hK:∀tl c (E:Array Int),PermIn a' b' D E→K ([(0,.own 2 g 0 len),(1,.int .i64 a'),(2,.int .i64 b'),(3,.int .i64 limit),(4,.fn 102 []),(10,.bool wb),(11,.bool wp),(12,.int .i64 (b'-a':Nat)),(13,.int .i64 p)]++tl) ⟨[Ap,CO,.arr g 1 nn cl (vs (.int .i64) E.toList)],c⟩)
 (hQ:∀c (E:Array Int) env,PermIn a' b' D E→SortedIn DN a' b' E→Q .ret env ⟨[Ap,CO,.arr g 1 nn cl (vs (.int .i64) E.toList)],c⟩):
 vC (Ac tab) (JK AlC) ([(0,.own 2 g 0 len),(1,.int .i64 a'),(2,.int .i64 b'),(3,.int .i64 limit),(4,.fn 102 []),(10,.bool wb),(11,.bool wp),(12,.int .i64 (b'-a':Nat)),(13,.int .i64 p),(14,.int .i64 h)]++tl) ⟨[Ap,CO,.arr g 1 nn cl (vs (.int .i64) D.toList)],c⟩ (GX K Q):=by
 (conv=>whnf);repeat' (first|exact hK _ _ _ (permIn_refl _ _ _)|(refine kA ?_;conv=>whnf)|(refine Br.mk (fun hc=>?_) fun hc=>?_<;>first|exact hc.elim|conv=>whnf)|(refine kB ?_))
 refine(Ao6 hD hb (by omega) hs).mono ?_
 rintro _ _ ⟨c1,rfl,rfl⟩
 have hp:=partialInsertionSort_holds QT D a' b' (by omega) (by omega) hB
 generalize partialInsertionSort DN D a' b'=R at hp
 obtain⟨E,r⟩:=R
 obtain⟨q1,q2⟩:=hp
 dsimp only at q1 q2 ⊢
 conv=>whnf
 apply Ae rfl
 cases r with
 |true=>
  (conv=>whnf);repeat' (first  |(refine kA ?_;conv=>whnf)|(refine Br.mk (fun hc=>?_) fun hc=>?_<;>first|exact hc.elim|conv=>whnf)|(refine kB ?_))
  exact hQ _ E _ q1 (q2 rfl)
 |false=>
  (conv=>whnf);repeat' (first|exact hK _ _ _ q1|(refine kA ?_;conv=>whnf)|(refine Br.mk (fun hc=>?_) fun hc=>?_<;>first|exact hc.elim|conv=>whnf)|(refine kB ?_))
theorem Apd {tl:Env} (hs:len<2^61) {a' b' c p:Nat} {limit h:Int} {wb wp:Bool} {D:Array Int} {K:Env→Aq→Prop} {Q:Aw→Env→Aq→Prop} (hab:a'+12<b') (hb:b'≤len) (hD:D.size=len) (hp1:a'≤p) (hp2:p<b')
 (hK:∀tl c (p:Nat) h (E:Array Int),PermIn a' b' D E→a'≤p→p<b'→K ([(0,.own 2 g 0 len),(1,.int .i64 a'),(2,.int .i64 b'),(3,.int .i64 limit),(4,.fn 102 []),(10,.bool wb),(11,.bool wp),(12,.int .i64 (b'-a':Nat)),(13,.int .i64 p),(14,.int .i64 h)]++tl) ⟨[Ap,CO,.arr g 1 nn cl (vs (.int .i64) E.toList)],c⟩):
 vC (Ac tab) (JK (FH (FH X3))) ([(0,.own 2 g 0 len),(1,.int .i64 a'),(2,.int .i64 b'),(3,.int .i64 limit),(4,.fn 102 []),(10,.bool wb),(11,.bool wp),(12,.int .i64 (b'-a':Nat)),(13,.int .i64 p),(14,.int .i64 h)]++tl) ⟨[Ap,CO,.arr g 1 nn cl (vs (.int .i64) D.toList)],c⟩ (GX K Q):=by
 (conv=>whnf);repeat' (first|exact hK _ _ _ _ _ (permIn_refl _ _ _) hp1 hp2|(refine kA ?_;conv=>whnf)|(refine Br.mk (fun hc=>?_) fun hc=>?_<;>first|exact hc.elim|conv=>whnf)|(refine kB ?_))
 refine(Aqc hD hb (by omega) hs).mono ?_
 rintro _ _ ⟨c1,E,rfl,rfl,q1⟩
 conv=>whnf
 apply Ae rfl
 have e:(b':Int)-1-((p:Int)-a')=((b'-1-(p-a'):Nat):Int):=by omega
 have hK':=fun tl=>hK tl c1 (b'-1-(p-a')) 1 E q1 (by omega) (by omega)
 rw[← e]at hK'
 (conv=>whnf);repeat' (first|exact hK' _|(refine kA ?_;conv=>whnf)|(refine Br.mk (fun hc=>?_) fun hc=>?_<;>first|exact hc.elim|conv=>whnf)|(refine kB ?_))
theorem Ape {tl:Env} (hs:len<2^61) {a' b' c:Nat} {limit:Int} {wb wp:Bool} {D:Array Int} {K:Env→Aq→Prop} {Q:Aw→Env→Aq→Prop} (hab:a'+12<b') (hb:b'≤len) (hD:D.size=len)
 (hK:∀tl c (p:Nat) h,a'≤p→p<b'→K ([(0,.own 2 g 0 len),(1,.int .i64 a'),(2,.int .i64 b'),(3,.int .i64 limit),(4,.fn 102 []),(10,.bool wb),(11,.bool wp),(12,.int .i64 (b'-a':Nat)),(13,.int .i64 p),(14,.int .i64 h)]++tl) ⟨[Ap,CO,.arr g 1 nn cl (vs (.int .i64) D.toList)],c⟩):
 vC (Ac tab) (JK (FH X3)) ([(0,.own 2 g 0 len),(1,.int .i64 a'),(2,.int .i64 b'),(3,.int .i64 limit),(4,.fn 102 []),(10,.bool wb),(11,.bool wp),(12,.int .i64 (b'-a':Nat))]++tl) ⟨[Ap,CO,.arr g 1 nn cl (vs (.int .i64) D.toList)],c⟩ (GX K Q):=by
 (conv=>whnf);repeat' (first  |(refine kA ?_;conv=>whnf)|(refine Br.mk (fun hc=>?_) fun hc=>?_<;>first|exact hc.elim|conv=>whnf)|(refine kB ?_))
 refine(Aqb hD hb hab hs).mono ?_
 rintro _ _ ⟨c1,p,h,ob,rfl,rfl,q1,q2⟩
 conv=>whnf
 apply Ae rfl
 (conv=>whnf);repeat' (first|exact hK _ _ _ _ q1 q2|(refine kA ?_;conv=>whnf)|(refine Br.mk (fun hc=>?_) fun hc=>?_<;>first|exact hc.elim|conv=>whnf)|(refine kB ?_))
theorem Apf {tl:Env} (hs:len<2^61) {a' b' c:Nat} {limit:Int} {wb wp:Bool} {D:Array Int} {K:Env→Aq→Prop} {Q:Aw→Env→Aq→Prop} (hab:a'+12<b') (hb:b'≤len) (hD:D.size=len) (hlim:0<limit)
 (hK:∀tl c wb limit (E:Array Int),0≤limit→limit<2^62→PermIn a' b' D E→K ([(0,.own 2 g 0 len),(1,.int .i64 a'),(2,.int .i64 b'),(3,.int .i64 limit),(4,.fn 102 []),(10,.bool wb),(11,.bool wp),(12,.int .i64 (b'-a':Nat))]++tl) ⟨[Ap,CO,.arr g 1 nn cl (vs (.int .i64) E.toList)],c⟩) (CY:limit<2^62):
 vC (Ac tab) (JK X3) ([(0,.own 2 g 0 len),(1,.int .i64 a'),(2,.int .i64 b'),(3,.int .i64 limit),(4,.fn 102 []),(10,.bool wb),(11,.bool wp),(12,.int .i64 (b'-a':Nat))]++tl) ⟨[Ap,CO,.arr g 1 nn cl (vs (.int .i64) D.toList)],c⟩ (GX K Q):=by
 cases wb with
 |true=>(conv=>whnf);repeat' (first|exact hK _ _ _ _ _ (by omega) (by omega) (permIn_refl _ _ _)|(refine kA ?_;conv=>whnf)|(refine Br.mk (fun hc=>?_) fun hc=>?_<;>first|exact hc.elim|conv=>whnf)|(refine kB ?_))
 |false=>
  (conv=>whnf);repeat' (first  |(refine kA ?_;conv=>whnf)|(refine Br.mk (fun hc=>?_) fun hc=>?_<;>first|exact hc.elim|conv=>whnf)|(refine kB ?_))
  refine(Aqe hD hb hab hs).mono ?_
  rintro _ _ ⟨c1,E,ob,rfl,rfl,q1⟩
  conv=>whnf
  apply Ae rfl
  (conv=>whnf);repeat' (first|exact hK _ _ _ _ _ (by omega) (by omega) q1|(refine kA ?_;conv=>whnf)|(refine Br.mk (fun hc=>?_) fun hc=>?_<;>first|exact hc.elim|conv=>whnf)|(refine kB ?_))
theorem Apg {a' b' c:Nat} {limit:Int} {wb wp:Bool} {D:Array Int} {K:Env→Aq→Prop} {Q:Aw→Env→Aq→Prop} (hs:len<2^61) (hab:a'≤b') (hb:b'≤len)
 (hK:∀tl,K ([(0,.own 2 g 0 len),(1,.int .i64 a'),(2,.int .i64 b'),(3,.int .i64 limit),(4,.fn 102 []),(10,.bool wb),(11,.bool wp),(12,.int .i64 (b'-a':Nat))]++tl) ⟨[Ap,CO,.arr g 1 nn cl (vs (.int .i64) D.toList)],c⟩):
 vC (Ac tab) (JK (Qo l182_0_b)) [(0,.own 2 g 0 len),(1,.int .i64 a'),(2,.int .i64 b'),(3,.int .i64 limit),(4,.fn 102 []),(10,.bool wb),(11,.bool wp)] ⟨[Ap,CO,.arr g 1 nn cl (vs (.int .i64) D.toList)],c⟩ (GX K Q):=by
 rw[show ((b'-a':Nat):Int)=(b':Int)-a' by omega]at hK
 (conv=>whnf);repeat' (first|exact hK []|(refine kA ?_;conv=>whnf)|(refine Br.mk (fun hc=>?_) fun hc=>?_<;>first|exact hc.elim|conv=>whnf)|(refine kB ?_))
theorem Aph {tl:Env} (hs:len<2^61) {a' b' c:Nat} {limit:Int} {wb wp:Bool} {D:Array Int} {K:Env→Aq→Prop} {Q:Aw→Env→Aq→Prop} (hab:a'≤b') (hb:b'≤len) (hD:D.size=len)
 (hK:∀tl c,a'+12<b'→K ([(0,.own 2 g 0 len),(1,.int .i64 a'),(2,.int .i64 b'),(3,.int .i64 limit),(4,.fn 102 []),(10,.bool wb),(11,.bool wp),(12,.int .i64 (b'-a':Nat))]++tl) ⟨[Ap,CO,.arr g 1 nn cl (vs (.int .i64) D.toList)],c⟩)
 (hQ:∀c (E:Array Int) env,PermIn a' b' D E→SortedIn DN a' b' E→Q .ret env ⟨[Ap,CO,.arr g 1 nn cl (vs (.int .i64) E.toList)],c⟩):
 vC (Ac tab) (JK (FH (Qo l182_0_b))) ([(0,.own 2 g 0 len),(1,.int .i64 a'),(2,.int .i64 b'),(3,.int .i64 limit),(4,.fn 102 []),(10,.bool wb),(11,.bool wp),(12,.int .i64 (b'-a':Nat))]++tl) ⟨[Ap,CO,.arr g 1 nn cl (vs (.int .i64) D.toList)],c⟩ (GX K Q):=by
 (conv=>whnf);repeat' (first|exact hK _ _ (by omega)|(refine kA ?_;conv=>whnf)|(refine Br.mk (fun hc=>?_) fun hc=>?_<;>first|exact hc.elim|conv=>whnf)|(refine kB ?_))
 refine(Aqf hD hb hs (by omega)).mono ?_
 rintro _ _ ⟨c1,rfl,rfl⟩
 conv=>whnf
 apply Ae rfl
 (conv=>whnf);repeat' (first  |(refine kA ?_;conv=>whnf)|(refine Br.mk (fun hc=>?_) fun hc=>?_<;>first|exact hc.elim|conv=>whnf)|(refine kB ?_))
 obtain⟨q1,q2⟩:=insertionSort_holds QT D a' b' hab (by omega)
 exact hQ _ _ _ q1 q2
theorem AlE {tl:Env} (hs:len<2^61) {a' b' c:Nat} {limit:Int} {wb wp:Bool} {D:Array Int} {K:Env→Aq→Prop} {Q:Aw→Env→Aq→Prop} (hab:a'+12<b') (hb:b'≤len) (hD:D.size=len) (hlim:0≤limit)
 (hK:∀tl c,0<limit→K ([(0,.own 2 g 0 len),(1,.int .i64 a'),(2,.int .i64 b'),(3,.int .i64 limit),(4,.fn 102 []),(10,.bool wb),(11,.bool wp),(12,.int .i64 (b'-a':Nat))]++tl) ⟨[Ap,CO,.arr g 1 nn cl (vs (.int .i64) D.toList)],c⟩)
 (hQ:∀c (E:Array Int) env,PermIn a' b' D E→SortedIn DN a' b' E→Q .ret env ⟨[Ap,CO,.arr g 1 nn cl (vs (.int .i64) E.toList)],c⟩):
 vC (Ac tab) (JK (FH (FH (Qo l182_0_b)))) ([(0,.own 2 g 0 len),(1,.int .i64 a'),(2,.int .i64 b'),(3,.int .i64 limit),(4,.fn 102 []),(10,.bool wb),(11,.bool wp),(12,.int .i64 (b'-a':Nat))]++tl) ⟨[Ap,CO,.arr g 1 nn cl (vs (.int .i64) D.toList)],c⟩ (GX K Q):=by
 (conv=>whnf);repeat' (first|exact hK _ _ (by omega)|(refine kA ?_;conv=>whnf)|(refine Br.mk (fun hc=>?_) fun hc=>?_<;>first|exact hc.elim|conv=>whnf)|(refine kB ?_))
 refine(Anh hD hb hs (by omega)).mono ?_
 rintro _ _ ⟨c1,rfl,rfl⟩
 conv=>whnf
 apply Ae rfl
 (conv=>whnf);repeat' (first  |(refine kA ?_;conv=>whnf)|(refine Br.mk (fun hc=>?_) fun hc=>?_<;>first|exact hc.elim|conv=>whnf)|(refine kB ?_))
 obtain⟨q1,q2⟩:=heapSort_holds QT D a' b' (by omega) (by omega)
 exact hQ _ _ _ q1 q2
theorem AlF (hs:len<2^61) (ih:∀x y,y-x<b-a→Aev Ap CO g len nn cl x y) {a' b' c:Nat} {limit:Int} {wb wp:Bool} {D:Array Int} (hab:a'≤b') (hb:b'≤len) (hle:b'-a'≤b-a) (hlim:0≤limit) (CY:limit<2^62) (hD:D.size=len) (hB:Below DN a' b' D)
 (hR:∀R,PermIn a' b' D R→SortedIn DN a' b' R→PermIn a b d R∧SortedIn DN a b R):
 vC (Ac tab) (Qo l182_0_b) [(0,.own 2 g 0 len),(1,.int .i64 a'),(2,.int .i64 b'),(3,.int .i64 limit),(4,.fn 102 []),(10,.bool wb),(11,.bool wp)] ⟨[Ap,CO,.arr g 1 nn cl (vs (.int .i64) D.toList)],c⟩ (YN Ap CO g len nn cl a b d (b'-a')):=by
 have hret:∀c (E:Array Int) env,PermIn a b d E→SortedIn DN a b E→YN Ap CO g len nn cl a b d (b'-a') .ret env ⟨[Ap,CO,.arr g 1 nn cl (vs (.int .i64) E.toList)],c⟩:=by
  intro c E env h1 h2
  unfold YN
  conv=>whnf
  apply Ae rfl
  exact⟨_,E,rfl,rfl,h1,h2⟩
 refine Dl (a:=JK (Qo l182_0_b)) (b:=FH (Qo l182_0_b)) (Apg hs hab hb fun tl1=>?_)
 refine Dl (a:=JK (FH (Qo l182_0_b))) (b:=FH (FH (Qo l182_0_b))) (Aph hs hab hb hD (fun Zw c2 h12=>?_) fun c E env h1 h2=>hret c E env (hR E h1 h2).1 (hR E h1 h2).2)
 refine Dl (a:=JK (FH (FH (Qo l182_0_b)))) (b:=X3) (AlE hs h12 hb hD hlim (fun tl3 c3 hl0=>?_) fun c E env h1 h2=>hret c E env (hR E h1 h2).1 (hR E h1 h2).2)
 refine Dl (a:=JK X3) (b:=FH X3) (Apf hs h12 hb hD hl0 (fun tl4 c4 wb4 Acz E4 hl4 Wv p4=>?_) CY)
 have hD4:E4.size=len:=by rw[p4.1,hD]
 refine Dl (a:=JK (FH X3)) (b:=FH (FH X3)) (Ape hs h12 hb hD4 fun tl5 c5 p h hp1 hp2=>?_)
 refine Dl (a:=JK (FH (FH X3))) (b:=AlC) (Apd hs h12 hb hD4 hp1 hp2 fun tl6 c6 p6 h6 E6 q6 Wx Wy=>?_)
 have WA:=permIn_trans _ _ _ _ _ p4 q6
 have hD6:E6.size=len:=by rw[WA.1,hD]
 have hB6:=hB.perm (by omega) WA
 refine Dl (a:=JK AlC) (b:=AlD) (Apc hs h12 hb hD6 hB6 (fun tl7 c7 E7 q7=>?_) fun c E env h1 h2=>hret c E env (hR E (permIn_trans _ _ _ _ _ WA h1) h2).1 (hR E (permIn_trans _ _ _ _ _ WA h1) h2).2)
 have p7:=permIn_trans _ _ _ _ _ WA q7
 have hD7:E7.size=len:=by rw[p7.1,hD]
 have hB7:=hB.perm (by omega) p7
 have hR7:∀R,PermIn a' b' E7 R→SortedIn DN a' b' R→PermIn a b d R∧SortedIn DN a b R:=fun R h1 h2=>hR R (permIn_trans _ _ _ _ _ p7 h1) h2
 refine Dl (a:=JK AlD) (b:=AsH) (Apb hs h12 hb hD7 hB7 Wx Wy (fun tl8=>Apa hs ih h12 hb hle hl4 Wv hD7 hB7 hR7 Wx Wy) fun c' mid E m1 m2 hE hBE fin=>?_)
 unfold YN
 conv=>whnf
 exact again.mk ⟨_,by omega,mid,b',_,Acz,_,_,E,rfl,by omega,hb,by omega,hl4,Wv,hE,hBE,fun R h1 h2=>hR7 R (fin R h1 h2).1 (fin R h1 h2).2,rfl,rfl⟩
end
theorem AsI {Ap CO:Obj} {g len:Nat} {nn cl:Bool} (hs:len<2^61):∀n a b,b-a≤n→Aev Ap CO g len nn cl a b:=by
 intro n
 induction n using Nat.strongRecOn with
 |ind n IH=>
  intro a b hn
  have ih:∀x y,y-x<b-a→Aev Ap CO g len nn cl x y:=fun x y h=>IH (y-x) (by omega) x y (Nat.le_refl _)
  clear IH hn
  intro c limit d hd hb hab hlim CY hB
  refine Ah rfl rfl ?_
  (conv=>whnf);repeat' (first  |(refine kA ?_;conv=>whnf)|(refine Br.mk (fun hc=>?_) fun hc=>?_<;>first|exact hc.elim|conv=>whnf)|(refine kB ?_))
  refine Af (Am1 Ap CO g len nn cl a b d) ?_ _ _ _ ⟨a,b,_,limit,true,true,d,rfl,hab,hb,Nat.le_refl _,hlim,CY,hd,hB,fun R h1 h2=>⟨h1,h2⟩,rfl,rfl⟩
  rintro _ _ _ ⟨a',b',c,limit,wb,wp,D,rfl,hab',hb',hle,hlim,CY,hD,hB',hR,rfl,rfl⟩
  refine⟨rfl,?_⟩
  exact AlF hs ih hab' hb' hle hlim CY hD hB' hR
theorem AkE {Ap CO:Obj} {g len c:Nat} {nn cl:Bool} {L:List Int} (hl:L.length=len) (hs:len<2^61) {limit:Int} (h0:0≤limit) (h1:limit<2^62):
 Am (Ac tab) 182 [.own 2 g 0 len,.int .i64 0,.int .i64 len,.int .i64 limit,.fn 102 []] ⟨[Ap,CO,.arr g 1 nn cl (vs (.int .i64) L)],c⟩ fun out s'=>∃c' W,out=.ok (.BG [])∧s'=⟨[Ap,CO,.arr g 1 nn cl (vs (.int .i64) W)],c'⟩∧W.Perm L∧W.Pairwise (fun x y=>DN y x=false):=by
 have:=AsI (Ap:=Ap) (CO:=CO) (g:=g) (nn:=nn) (cl:=cl) hs len 0 len (by omega) c limit L.toArray (by simpa using hl) (Nat.le_refl _) (by omega) h0 h1 (Or.inl rfl)
 refine this.mono ?_
 rintro _ _ ⟨c',D,rfl,rfl,p1,p2⟩
 refine⟨c',D.toList,rfl,rfl,Vg hl p1,Pz (by rw[p1.1];simpa using hl) p2⟩
end
section
open Go.Sort
theorem clr {C:Bd} {es o g off n:Nat} {nn cl:Bool} {x:AO} {env:Env} {σ:List Obj} {c:Nat} {elems:List AV} (hx:x.val env=.own o g off n) (ho:nth σ o=some (.arr g es nn cl elems)) (h:off+n≤elems.length) (hn:n≠0):
 AA C (.clear es x) env ⟨σ,c⟩=some (.ok .undef,⟨σ.set o (.arr g es nn cl (elems.take off)),c⟩):=by
 simp[AA,hx,ho,h,hn]
section
variable {α:Type} [Inhabited α]
theorem nPn {f:α→AV} {d:Array α} {m:Nat} (i:Nat) (hm:m=i) (h:i<d.size):nth (vs f d.toList) m=some (f d[i]!):=by
 subst hm
 have:=nP (f:=f) (d:=d) (z:=(m:Int)) m rfl h
 exact this
open Classical in
noncomputable def Jd (d:Array α):Nat→List α
 |0=>[]
 |n+1=>if 0<n∧d[n]! =d[n-1]! then Jd d n else Jd d n++[d[n]!]
theorem Gp {d:Array α} {n:Nat} (h0:0<n) (h:d[n]! =d[n-1]!):Jd d (n+1)=Jd d n:=if_pos ⟨h0,h⟩
theorem Mc {d:Array α} {n:Nat} (h:0<n→¬d[n]! =d[n-1]!):Jd d (n+1)=Jd d n++[d[n]!]:=if_neg fun h1=>h h1.1 h1.2
theorem Nv {d:Array α}:∀n,n≤d.size→(∀ j,0<j→j<n→¬d[j]! =d[j-1]!)→Jd d n=d.toList.take n
 |0,_,_=>by simp[Jd]
 |n+1,hn,h=>by
  rw[Mc (fun h0=>h n h0 (by omega)),Nv n (by omega) fun j h0 hj=>h j h0 (by omega),List.take_succ_eq_append_getElem (by simp;omega)]
  congr 2
  rw[getElem!_pos d n (by omega)]
  simp
theorem QX {d:Array α} {x:α}:∀n,n≤d.size→(x∈Jd d n↔x∈d.toList.take n)
 |0,_=>by simp[Jd]
 |n+1,hn=>by
  have e:d[n]! =d.toList[n]'(by simp;omega):=by rw[getElem!_pos d n (by omega)];simp
  rw[List.take_succ_eq_append_getElem (by simp;omega),List.mem_append,List.mem_singleton,←e]
  by_cases h:0<n∧d[n]! =d[n-1]!
  ·rw[Gp h.1 h.2,QX n (by omega)]
   refine⟨Or.inl,fun h1=>h1.elim id ?_⟩
   rintro rfl
   rw[h.2,getElem!_pos d (n-1) (by omega)]
   rw[List.mem_take_iff_getElem]
   exact⟨n-1,by simp;omega,by simp⟩
  ·rw[Mc (fun h0 h1=>h ⟨h0,h1⟩),List.mem_append,List.mem_singleton,QX n (by omega)]
theorem Acl {lt:α→α→Bool} (hS:SWO lt) (htot:∀x y,lt x y=false→lt y x=false→x=y) {d:Array α} (hs:SortedIn lt 0 d.size d):∀n,n≤d.size→(Jd d n).Pairwise (fun x y=>lt x y=true)
 |0,_=>by simp[Jd]
 |n+1,hn=>by
  have ih:=Acl hS htot hs n (by omega)
  by_cases h:0<n∧d[n]! =d[n-1]!
  ·rw[Gp h.1 h.2];exact ih
  ·rw[Mc (fun h0 h1=>h ⟨h0,h1⟩)]
   refine List.pairwise_append.2 ⟨ih,List.pairwise_singleton ..,fun x hx y hy=>?_⟩
   obtain rfl:=List.mem_singleton.1 hy
   rw[QX n (by omega),List.mem_take_iff_getElem]at hx
   obtain⟨j,hj,rfl⟩:=hx
   simp only[Array.length_toList]at hj
   have ej:d.toList[j]'(by simp;omega)=d[j]!:=by rw[getElem!_pos d j (by omega)];simp
   rw[ej]
   cases hc:lt d[j]! d[n]! with
   |true=>rfl
   |false=>
    exfalso
    have h1:=hs j n (by omega) (by omega) (by omega)
    have e1:=htot _ _ hc h1
    refine h ⟨by omega,?_⟩
    rcases Nat.lt_or_ge j (n-1)with h2|h2
    ·have h3:=hs j (n-1) (by omega) h2 (by omega)
     have h4:=hs (n-1) n (by omega) (by omega) (by omega)
     rw[e1]at h3
     exact htot _ _ h4 h3
    ·obtain rfl:j=n-1:=by omega
     exact e1.symm
omit [Inhabited α]in
theorem Qm {lt:α→α→Bool} (hS:SWO lt):∀{a b:List α},a.Pairwise (fun x y=>lt x y=true)→b.Pairwise (fun x y=>lt x y=true)→(∀ x,x∈a↔x∈b)→a=b
 |[],[],_,_,_=>rfl
 |[],y::b,_,_,h=>absurd ((h y).2 (List.mem_cons_self ..)) (by simp)
 |x::a,[],_,_,h=>absurd ((h x).1 (List.mem_cons_self ..)) (by simp)
 |x::a,y::b,ha,hb,h=>by
  have ha':=List.pairwise_cons.1 ha
  have hb':=List.pairwise_cons.1 hb
  have hxy:x=y:=by
   rcases List.mem_cons.1 ((h x).1 (List.mem_cons_self ..))with e|hx
   ·exact e
   rcases List.mem_cons.1 ((h y).2 (List.mem_cons_self ..))with e|hy
   ·exact e.symm
   have:=hS.trans _ _ _ (ha'.1 y hy) (hb'.1 x hx)
   rw[hS.irrefl]at this;cases this
  subst hxy
  rw[Qm hS ha'.2 hb'.2 fun z=>?_]
  have hn1:x∉a:=fun h1=>by have:=ha'.1 x h1;rw[hS.irrefl]at this;cases this
  have hn2:x∉b:=fun h1=>by have:=hb'.1 x h1;rw[hS.irrefl]at this;cases this
  have:=h z
  simp only[List.mem_cons]at this
  constructor
  ·intro hz
   rcases this.1 (Or.inr hz)with rfl|h2
   ·exact absurd hz hn1
   ·exact h2
  ·intro hz
   rcases this.2 (Or.inr hz)with rfl|h2
   ·exact absurd hz hn2
   ·exact h2
end
end
def Ez (c:Int):Prop:=(97≤c∧c≤122)∨(65≤c∧c≤90)
instance (c:Int):Decidable (Ez c):=by unfold Ez;infer_instance
theorem Aem {c:Int}:Ag (Ac tab) 136 [.int .u8 c] (· =.bool (decide (Ez c))):=by
 refine Ad rfl rfl ?_
 (conv=>whnf);repeat' (first|(refine kA ?_;conv=>whnf)|(refine Br.mk (fun hc=>?_) fun hc=>?_<;>first|exact hc.elim|conv=>whnf)  |(refine kB ?_))
 all_goals first|exact Bh (by unfold Ez;omega)|exact Ar (by unfold Ez;omega)
theorem Aen {c:Int}:Ag (Ac tab) 178 [.int .u8 c] (· =.bool (decide (Ez c))):=by
 refine Ad rfl rfl ?_
 (conv=>whnf);repeat' (first|(refine kA ?_;conv=>whnf)|(refine Br.mk (fun hc=>?_) fun hc=>?_<;>first|exact hc.elim|conv=>whnf)  |(refine kB ?_))
 all_goals first|exact Bh (by unfold Ez;omega)|exact Ar (by unfold Ez;omega)
def JB (c:Int):Prop:=Ez c∨(48≤c∧c≤57)∨c=95
instance (c:Int):Decidable (JB c):=by unfold JB;infer_instance
def isName (s:List UInt8):Prop:=0<s.length∧s.length≤20∧(∀ c,s[0]?=some c→Ez c.toNat)∧∀c∈s,JB c.toNat
instance (s:List UInt8):Decidable (isName s):=by unfold isName;infer_instance
theorem Qk {s:List UInt8} (hs:0<s.length) (h:isName s):Ez s[0].toNat:=h.2.2.1 _ (List.getElem?_eq_getElem hs)
theorem YL {s:List UInt8} {i:Nat} (hi:i<s.length) (h:isName s):JB s[i].toNat:=h.2.2.2 _ (List.getElem_mem _)
theorem AoP {s:List UInt8} (hs:0<s.length) (h:JB s[0].toNat):∀c∈s.take 1,JB c.toNat:=by
 cases s with
 |nil=>simp at hs
 |cons a l=>simpa using h
theorem name1 {s:List UInt8} (hl:s.length<2^63):Ag (Ac tab) 78 [.str s] (· =.bool (decide (isName s))):=by
 by_cases h0:s.length=0
 ·obtain rfl:s=[]:=List.length_eq_zero_iff.1 h0
  refine Ad rfl rfl ?_
  (conv=>whnf);repeat' (first|(refine kA ?_;conv=>whnf)|(refine Br.mk (fun hc=>?_) fun hc=>?_<;>first|exact hc.elim|conv=>whnf)  |(refine kB ?_))
  all_goals exact Ar (by simp[isName])
 have hs:0<s.length:=by omega
 have hne:s≠[]:=by rintro rfl;simp at h0
 have hz:s[0]?=some s[0]:=List.getElem?_eq_getElem hs
 refine Ad rfl rfl ?_
 (conv=>whnf);repeat' (first|(refine kA ?_;conv=>whnf)|(refine Br.mk (fun hc=>?_) fun hc=>?_<;>first|exact hc.elim|conv=>whnf)|(refine Bo (Aem) (fun hc=>?_) (fun hc=>?_)<;>conv=>whnf)|(refine kB ?_))
 all_goals first|exact absurd hc hne|exact Ar (by unfold isName;omega)|exact Ar fun h=>hc (Qk hs h)|skip
 refine Af (fun m env s'=>∃i:Nat,m=s.length-i∧env=[(0,.str s),(18,.int .i64 s.length),(19,.int .i64 i)]∧s'=⟨[],0⟩∧∀c∈s.take i,JB c.toNat) ?_ _ _ _ ⟨0,rfl,by simp,rfl,by simp⟩
 rintro _ _ _ ⟨i,rfl,rfl,rfl,hx⟩
 refine⟨rfl,?_⟩
 (conv=>whnf);repeat' (first|(refine kA ?_;conv=>whnf)|(refine Br.mk (fun hc=>?_) fun hc=>?_<;>first|exact hc.elim|conv=>whnf)|(refine Bo (Aem) (fun hc=>?_) (fun hc=>?_)<;>conv=>whnf)|(refine kB ?_))
 all_goals first
  |exact again.mk ⟨_,by omega,i+1,rfl,rfl,rfl,Cb (by omega) hx (by unfold JB Ez at *;omega)⟩
  |(refine Ar fun h=>?_;have:=YL (i:=i) (by omega) h;unfold JB Ez at *;omega)
  |(rename_i hc1;exact Bh ⟨hs,by omega,fun c h=>by rw[hz]at h;cases h;assumption,by rw[CQ hc]at hx;exact hx⟩)
theorem name2 {s:List UInt8} (hl:s.length<2^63):Ag (Ac tab) 96 [.str s] (· =.bool (decide (isName s))):=by
 by_cases h0:s.length=0
 ·obtain rfl:s=[]:=List.length_eq_zero_iff.1 h0
  refine Ad rfl rfl ?_
  (conv=>whnf);repeat' (first|(refine kA ?_;conv=>whnf)|(refine Br.mk (fun hc=>?_) fun hc=>?_<;>first|exact hc.elim|conv=>whnf)  |(refine kB ?_))
  all_goals exact Ar (by simp[isName])
 have hs:0<s.length:=by omega
 have hne:s≠[]:=by rintro rfl;simp at h0
 have hz:s[0]?=some s[0]:=List.getElem?_eq_getElem hs
 refine Ad rfl rfl ?_
 (conv=>whnf);repeat' (first|(refine kA ?_;conv=>whnf)|(refine Br.mk (fun hc=>?_) fun hc=>?_<;>first|exact hc.elim|conv=>whnf)|(refine Bo (Aen) (fun hc=>?_) (fun hc=>?_)<;>conv=>whnf)|(refine kB ?_))
 all_goals first|exact absurd hc hne|exact Ar (by unfold isName;omega)|exact Ar fun h=>hc (Qk hs h)|skip
 refine Af (fun m env s'=>∃i:Nat,m=s.length-i∧env=[(0,.str s),(3,.int .i64 i)]∧s'=⟨[],0⟩∧∀c∈s.take i,JB c.toNat) ?_ _ _ _ ⟨1,rfl,rfl,rfl,AoP hs (Or.inl hc)⟩
 rintro _ _ _ ⟨i,rfl,rfl,rfl,hx⟩
 refine⟨rfl,?_⟩
 (conv=>whnf);repeat' (first|(refine kA ?_;conv=>whnf)|(refine Br.mk (fun hc=>?_) fun hc=>?_<;>first|exact hc.elim|conv=>whnf)|(refine Bo (Aen) (fun hc=>?_) (fun hc=>?_)<;>conv=>whnf)|(refine kB ?_))
 all_goals first
  |exact again.mk ⟨_,by omega,i+1,rfl,rfl,rfl,Cb (by omega) hx (by unfold JB Ez at *;omega)⟩
  |(refine Ar fun h=>?_;have:=YL (i:=i) (by omega) h;unfold JB Ez at *;omega)
  |(rename_i hc1;exact Bh ⟨hs,by omega,fun c h=>by rw[hz]at h;cases h;assumption,by rw[CQ hc]at hx;exact hx⟩)
theorem TP {AP:Nat→Option Jc} {f:Nat} {sp:List AV→Aq→Option (Bf×Aq)} {args:List AV} {R:AV→Prop} {v v':AV} {s:Aq} (hf:AP f=some (.ext sp)) (h:sp args ⟨[],0⟩=some (.ok v,s)) (hs:snap s.σ F5 v=some v') (hR:R v'):Ag AP f args R:=
 ⟨v',⟨1,by simp only[Fb,run,hf,h];exact hs⟩,hR⟩
theorem ixP {l:List UInt8}:Ag (Ac tab) 278 [.str l,.fn 279 []] (· =.int .i64 (MO l)):=
 TP rfl rfl rfl rfl
theorem JX {l:List UInt8}:MO l<0↔∀c∈l,Sr c=false:=by
 unfold MO
 cases h:List.findIdx? Sr l with
 |none=>
  refine⟨fun _ c hc=>?_,fun _=>by decide⟩
  have:=List.findIdx?_eq_none_iff.1 h c hc
  simpa using this
 |some i=>
  refine⟨fun h=>?_,fun ha=>?_⟩
  ·simp at h;omega
  ·obtain⟨h1,h2,_⟩:=List.findIdx?_eq_some_iff_getElem.1 h
   rw[ha _ (List.getElem_mem h1)]at h2
   cases h2
def MR (n:Int):Prop:=-1000000000000000≤n∧n≤1000000000000000
instance (n:Int):Decidable (MR n):=by unfold MR;infer_instance
theorem inP {n:Int}:Ag (Ac tab) 276 [.int .i64 n] (· =.bool (decide (MR n))):=by
 refine Ad rfl rfl ?_
 (conv=>whnf);repeat' (first|(refine kA ?_;conv=>whnf)|(refine Br.mk (fun hc=>?_) fun hc=>?_<;>first|exact hc.elim|conv=>whnf)  |(refine kB ?_))
 all_goals first|exact Bh (by unfold MR;omega)|exact Ar (by unfold MR;omega)
theorem Arb {n:Int}:Ag (Ac tab) 257 [.int .i64 n] (· =.bool (decide (MR n))):=by
 refine Ad rfl rfl ?_
 (conv=>whnf);repeat' (first|(refine kA ?_;conv=>whnf)|(refine Br.mk (fun hc=>?_) fun hc=>?_<;>first|exact hc.elim|conv=>whnf)  |(refine kB ?_))
 all_goals first|exact Bh (by unfold MR;omega)|exact Ar (by unfold MR;omega)
def okS (s:List UInt8):Prop:=s.length≤100∧∀c∈s,Sr c=false
instance (s:List UInt8):Decidable (okS s):=by unfold okS;infer_instance
def DW (v:GV):Prop:=v.d=0∧v.l.length=0∧(v.k=1∧v.s=[]∧(v.n=0∨v.n=1)∨v.k=2∧v.s=[]∧MR v.n∨v.k=4∧v.n=0∧okS v.s)
instance (v:GV):Decidable (DW v):=by unfold DW;infer_instance
def KC (v:GV):Prop:=v.k=1∨v.k=2∨v.k=4
instance (v:GV):Decidable (KC v):=by unfold KC;infer_instance
theorem Yw {v:GV} (h:DW v):KC v:=by unfold DW at h;unfold KC;omega
theorem Aom {v:GV} (h:v.k=1) (h1:v.d=0) (h2:v.l.length=0) (h3:v.s=[]) (h4:v.n=0∨v.n=1):DW v:=⟨h1,h2,.inl ⟨h,h3,h4⟩⟩
theorem Aon {v:GV} (h:v.k=2) (h1:v.d=0) (h2:v.l.length=0) (h3:v.s=[]) (h4:MR v.n):DW v:=⟨h1,h2,.inr (.inl ⟨h,h3,h4⟩)⟩
theorem Aoo {v:GV} (h:v.k=4) (h1:v.d=0) (h2:v.l.length=0) (h3:v.n=0) (h4:okS v.s):DW v:=⟨h1,h2,.inr (.inr ⟨h,h3,h4⟩)⟩
theorem Aop {v:GV} (h:DW v) (hk:v.k≠4):v.s=[]:=by
 obtain⟨_,_,h⟩:=h
 rcases h with h|h|h
 ·exact h.2.1
 ·exact h.2.1
 ·exact absurd h.1 hk
theorem Aoq {v:GV} (h:DW v) (hk:v.k=1):v.n=0∨v.n=1:=by
 obtain⟨_,_,h⟩:=h;omega
theorem Aor {v:GV} (h:DW v) (hk:v.k=2):MR v.n:=by
 obtain⟨_,_,h⟩:=h
 rcases h with h|h|h<;>first|exact h.2.2|omega
theorem Ahm {v:GV} (h:DW v) (hk:v.k=4):v.n=0∧okS v.s:=by
 obtain⟨_,_,h⟩:=h
 rcases h with h|h|h<;>first|exact h.2|omega
theorem vld {v:GV} (hv:v.ok) (hk:KC v) {n:Int}:Ag (Ac tab) 249 [v.av,.int .i64 n] (· =.bool (decide (DW v))):=by
 obtain⟨g1,g2,g3,g4,g5,g6,g7⟩:=hv
 unfold Ln at g4 g5
 unfold KC at hk
 refine Ad rfl rfl ?_
 (conv=>whnf);repeat' (first|(refine kA ?_;conv=>whnf)|(refine Br.mk (fun hc=>?_) fun hc=>?_<;>first|exact hc.elim|conv=>whnf)|(refine Bo (inP (n:=v.n)) (fun hr=>?_) (fun hr=>?_)<;>conv=>whnf)|(refine Aa (ixP (l:=v.s)) ?_;rintro _ rfl;conv=>whnf)|(refine kB ?_))
 all_goals first
  |exact Ar (fun h=>by have:=h.2.1;omega)
  |(refine Bh ?_;clear g7 g6;unfold DW okS;rw[← JX];first|(simp_all;done)|(simp_all;omega))
  |(refine Ar ?_;clear g7 g6;unfold DW okS;rw[← JX];first|(simp_all;done)|(simp_all;omega))
theorem Avv {v:GV} (hv:v.ok) (hk:KC v):Ag (Ac tab) 191 [v.av] (· =.bool (decide (DW v))):=by
 refine Ad rfl rfl ?_
 (conv=>whnf);repeat' (first|(refine kA ?_;conv=>whnf)|(refine Br.mk (fun hc=>?_) fun hc=>?_<;>first|exact hc.elim|conv=>whnf)|(refine Bo (vld (v:=v) hv hk) (fun hr=>?_) (fun hr=>?_)<;>conv=>whnf)|(refine kB ?_))
 all_goals first|exact Bh (by assumption)|exact Ar (by assumption)
theorem AgT {v:GV} (hv:v.ok):Ag (Ac tab) 132 [v.av] (· =.bool (decide (DW v))):=by
 refine Ad rfl rfl ?_
 (conv=>whnf);repeat' (first|(refine kA ?_;conv=>whnf)|(refine Br.mk (fun hc=>?_) fun hc=>?_<;>first|exact hc.elim|conv=>whnf)|(refine Bo (Avv (v:=v) hv (by unfold KC;omega)) (fun hr=>?_) (fun hr=>?_)<;>conv=>whnf)|(refine kB ?_))
 all_goals first|exact Bh (by assumption)|exact Ar (by assumption)|exact Ar fun h=>absurd (Yw h) (by unfold KC;omega)
def allNames (l:List (List UInt8)):Prop:=∀s∈l,isName s
noncomputable instance (l:List (List UInt8)):Decidable (allNames l):=Classical.propDecidable _
def rises (l:List (List UInt8)):Prop:=∀j (h:j+1<l.length),(Op.bytesLess l[j+1] l[j]||l[j+1]==l[j])=false
noncomputable instance (l:List (List UInt8)):Decidable (rises l):=Classical.propDecidable _
theorem unn {s:List UInt8} (hl:s.length<2^63):Ag (Ac tab) 130 [.str s] (· =.bool (decide (¬ isName s))):=by
 refine Ad rfl rfl ?_
 (conv=>whnf);repeat' (first|(refine kA ?_;conv=>whnf)|(refine Br.mk (fun hc=>?_) fun hc=>?_<;>first|exact hc.elim|conv=>whnf)|(refine Bo (name1 hl) (fun hr=>?_) (fun hr=>?_)<;>conv=>whnf)|(refine kB ?_))
 ·exact Ar (fun h=>h hr)
 ·exact Bh hr
theorem Ar1 {l:List (List UInt8)} {nn:Bool} (hl:l.length<2^63) (hs:∀s∈l,s.length<2^63):Ag (Ac tab) 190 [.sl nn (vs .str l),.fn 130 []] (fun v=>∃z,v=.int .i64 z∧(0≤z↔¬allNames l)):=by
 refine Ad rfl rfl ?_
 (conv=>whnf);repeat' (first|(refine kA ?_;conv=>whnf)|(refine Br.mk (fun hc=>?_) fun hc=>?_<;>first|exact hc.elim|conv=>whnf)  |(refine kB ?_))
 refine Af (fun m env s=>∃i:Nat,m=l.length-i∧env=[(0,.sl nn (vs .str l)),(1,.fn 130 []),(7,.int .i64 l.length),(8,.int .i64 i)]∧s=⟨[],0⟩∧∀s∈l.take i,isName s) ?_ _ _ _ ⟨0,rfl,by simp,rfl,by simp⟩
 rintro _ _ _ ⟨i,rfl,rfl,rfl,hx⟩
 refine⟨rfl,?_⟩
 (conv=>whnf);repeat' (first|(refine kA ?_;conv=>whnf)|(refine Br.mk (fun hc=>?_) fun hc=>?_<;>first|exact hc.elim|conv=>whnf)|(refine Bo (unn (hs _ (List.getElem_mem (by omega)))) (fun hr=>?_) (fun hr=>?_)<;>conv=>whnf)|(refine kB ?_))
 ·exact⟨_,rfl,fun _ h=>hr (h _ (List.getElem_mem _)),fun _=>by omega⟩
 ·exact again.mk ⟨_,by omega,i+1,rfl,rfl,rfl,Cb (by omega) hx (Decidable.of_not_not hr)⟩
 ·rw[CQ hc]at hx;exact⟨_,rfl,fun h=>absurd h (by omega),fun h=>absurd hx h⟩
theorem Ah9 {l:List (List UInt8)} {nn:Bool} (hl:l.length<2^63) (hs:∀s∈l,s.length<2^63):Ag (Ac tab) 129 [.sl nn (vs .str l),.fn 130 []] (· =.bool (decide (¬ allNames l))):=by
 refine Ad rfl rfl ?_
 (conv=>whnf);repeat' (first|(refine kA ?_;conv=>whnf)|(refine Br.mk (fun hc=>?_) fun hc=>?_<;>first|exact hc.elim|conv=>whnf)  |(refine kB ?_))
 refine Aa (Ar1 hl hs) ?_
 rintro _ ⟨z,rfl,hz⟩
 (conv=>whnf);repeat' (first|(refine kA ?_;conv=>whnf)|(refine Br.mk (fun hc=>?_) fun hc=>?_<;>first|exact hc.elim|conv=>whnf)  |(refine kB ?_))
 ·exact Bh (hz.1 hc)
 ·exact Ar (mt hz.2 hc)
theorem Aho {l:List (List UInt8)} {nn:Bool} (hl:l.length<2^63) (hs:∀s∈l,s.length<2^63):Ag (Ac tab) 176 [.sl nn (vs .str l)] (· =.bool (decide (allNames l))):=by
 refine Ad rfl rfl ?_
 (conv=>whnf);repeat' (first|(refine kA ?_;conv=>whnf)|(refine Br.mk (fun hc=>?_) fun hc=>?_<;>first|exact hc.elim|conv=>whnf)  |(refine kB ?_))
 refine Af (fun m env s=>∃i:Nat,m=l.length-i∧env=[(0,.sl nn (vs .str l)),(3,.int .i64 i)]∧s=⟨[],0⟩∧∀s∈l.take i,isName s) ?_ _ _ _ ⟨0,rfl,rfl,rfl,by simp⟩
 rintro _ _ _ ⟨i,rfl,rfl,rfl,hx⟩
 refine⟨rfl,?_⟩
 (conv=>whnf);repeat' (first|(refine kA ?_;conv=>whnf)|(refine Br.mk (fun hc=>?_) fun hc=>?_<;>first|exact hc.elim|conv=>whnf)|(refine Bo (name2 (hs _ (List.getElem_mem (by omega)))) (fun hr=>?_) (fun hr=>?_)<;>conv=>whnf)|(refine kB ?_))
 ·exact again.mk ⟨_,by omega,i+1,rfl,rfl,rfl,Cb (by omega) hx hr⟩
 ·exact Ar fun h=>hr (h _ (List.getElem_mem _))
 ·rw[CQ hc]at hx;exact Bh hx
theorem Aia {l:List (List UInt8)} {nn:Bool} (hl:l.length<2^63):Ag (Ac tab) 131 [.sl nn (vs .str l)] (· =.bool (decide (rises l))):=by
 refine Ad rfl rfl ?_
 (conv=>whnf);repeat' (first|(refine kA ?_;conv=>whnf)|(refine Br.mk (fun hc=>?_) fun hc=>?_<;>first|exact hc.elim|conv=>whnf)  |(refine kB ?_))
 refine Af (fun m env s=>∃i:Nat,m=l.length-i∧env=[(0,.sl nn (vs .str l)),(3,.int .i64 (i+1:Nat))]∧s=⟨[],0⟩∧∀j (h:j+1<l.length),j<i→(Op.bytesLess l[j+1] l[j]||l[j+1]==l[j])=false) ?_ _ _ _ ⟨0,rfl,rfl,rfl,fun j _ h=>absurd h (by omega)⟩
 rintro _ _ _ ⟨i,rfl,rfl,rfl,hx⟩
 refine⟨rfl,?_⟩
 (conv=>whnf);repeat' (first|(refine kA ?_;conv=>whnf)|(refine Br.mk (fun hc=>?_) fun hc=>?_<;>first|exact hc.elim|conv=>whnf)|(apply Au;(· exact nVz i (by omega) (by omega));conv=>whnf)|(refine kB ?_))
 ·exact Ar fun h=>by simp only[show (((i+1:Nat):Int)-1).toNat=i by omega]at hc;rw[h i (by omega)]at hc;cases hc
 ·simp only[show (((i+1:Nat):Int)-1).toNat=i by omega]at hc
  exact again.mk ⟨_,by omega,i+1,rfl,rfl,rfl,fun j h hj=>by
   by_cases e:j=i
   ·subst e;simpa using hc
   ·exact hx j h (by omega)⟩
 ·exact Bh fun j h=>hx j h (by omega)
theorem Ahp {l:List (List UInt8)} {nn:Bool} (hl:l.length<2^63):Ag (Ac tab) 177 [.sl nn (vs .str l)] (· =.bool (decide (rises l))):=by
 refine Ad rfl rfl ?_
 (conv=>whnf);repeat' (first|(refine kA ?_;conv=>whnf)|(refine Br.mk (fun hc=>?_) fun hc=>?_<;>first|exact hc.elim|conv=>whnf)  |(refine kB ?_))
 refine Af (fun m env s=>∃i:Nat,m=l.length-i∧env=[(0,.sl nn (vs .str l)),(3,.int .i64 (i+1:Nat))]∧s=⟨[],0⟩∧∀j (h:j+1<l.length),j<i→(Op.bytesLess l[j+1] l[j]||l[j+1]==l[j])=false) ?_ _ _ _ ⟨0,rfl,rfl,rfl,fun j _ h=>absurd h (by omega)⟩
 rintro _ _ _ ⟨i,rfl,rfl,rfl,hx⟩
 refine⟨rfl,?_⟩
 (conv=>whnf);repeat' (first|(refine kA ?_;conv=>whnf)|(refine Br.mk (fun hc=>?_) fun hc=>?_<;>first|exact hc.elim|conv=>whnf)|(apply Au;(· exact nVz i (by omega) (by omega));conv=>whnf)|(refine kB ?_))
 ·exact Ar fun h=>by simp only[show (((i+1:Nat):Int)-1).toNat=i by omega]at hc;rw[h i (by omega)]at hc;cases hc
 ·simp only[show (((i+1:Nat):Int)-1).toNat=i by omega]at hc
  exact again.mk ⟨_,by omega,i+1,rfl,rfl,rfl,fun j h hj=>by
   by_cases e:j=i
   ·subst e;simpa using hc
   ·exact hx j h (by omega)⟩
 ·exact Bh fun j h=>hx j h (by omega)
end AI
end Go.Proofs.YthnehejdkajjhaaGreatDoor
