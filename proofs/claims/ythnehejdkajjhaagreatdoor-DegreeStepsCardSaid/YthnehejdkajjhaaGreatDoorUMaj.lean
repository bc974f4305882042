/- Sorting in place (Ordered[string]): the whole. Sorting (slices.Sort[[]string,string]), leaving out what repeats (slices.Compact[[]string,string]). Leaving out what repeats (slices.Compact[[]string,string]). The program's labels and types of a graph. Labels and types of a graph: the program's and the reference's. degree.Of: the statistics of a graph. The inner loops of the reference's Of. The reference's Of: the loop over the labels. The reference's Of: the loop over the types. The reference's Of: the statistics of a graph. Labels and degrees of a valid graph are few: plain. What a change leaves alone: plain. Changes as arguments. -/
import Derived.Test.YthnehejdkajjhaaGreatDoorUMai
import Derived.Test.YthnehejdkajjhaaGreatDoorUPsC
import Derived.Test.YthnehejdkajjhaaGreatDoorUMaf
import Derived.Test.YthnehejdkajjhaaGreatDoorBMaa
import Derived.Test.YthnehejdkajjhaaGreatDoorUMad
import Derived.Test.YthnehejdkajjhaaGreatDoorUMah
import Derived.Test.YthnehejdkajjhaaGreatDoorUMag
set_option linter.unusedVariables false
set_option maxRecDepth 4000
namespace Go.Proofs.YthnehejdkajjhaaGreatDoor
namespace AI
section
open Go.Sort
abbrev Aez (Ap:Obj) (g len:Nat) (nn cl:Bool) (a b:Nat):Prop:=∀(c:Nat) (limit:Int) (d:Array (List UInt8)),d.size=len→b≤len→a≤b→0≤limit→limit<2^62→Below DL a b d→
 Am (Ac tab) 180 [.own 1 g 0 len,.int .i64 a,.int .i64 b,.int .i64 limit] ⟨[Ap,.arr g 1 nn cl (vs .str d.toList)],c⟩ fun out s'=>∃c' D,out=.ok (.BG [])∧s'=⟨[Ap,.arr g 1 nn cl (vs .str D.toList)],c'⟩∧PermIn a b d D∧SortedIn DL a b D
def FI:AY→AY
 | .seq _ b=>b
 |c=>c
def JL:AY→AY
 | .seq a _=>a
 |c=>c
def Qp:AY→AY
 | .block _ a=>a
 |c=>c
noncomputable def X4:AY:=FI (FI (FI (Qp l180_0_b)))
noncomputable def AlG:AY:=FI (FI (FI X4))
noncomputable def AlH:AY:=FI AlG
noncomputable def AsJ:AY:=FI AlH
abbrev Am3 (Ap:Obj) (g len:Nat) (nn cl:Bool) (a b:Nat) (d:Array (List UInt8)) (m:Nat) (env:Env) (s:Aq):Prop:=
 ∃(a' b' c:Nat) (limit:Int) (wb wp:Bool) (D:Array (List UInt8)),m=b'-a'∧a'≤b'∧b'≤len∧b'-a'≤b-a∧0≤limit∧limit<2^62∧D.size=len∧Below DL a' b' D∧(∀ R,PermIn a' b' D R→SortedIn DL a' b' R→PermIn a b d R∧SortedIn DL a b R)∧
  env=[(0,.own 1 g 0 len),(1,.int .i64 a'),(2,.int .i64 b'),(3,.int .i64 limit),(8,.bool wb),(9,.bool wp)]∧s=⟨[Ap,.arr g 1 nn cl (vs .str D.toList)],c⟩
section
variable {Ap:Obj} {g len:Nat} {nn cl:Bool} {a b:Nat} {d:Array (List UInt8)}
def YQ (Ap:Obj) (g len:Nat) (nn cl:Bool) (a b:Nat) (d:Array (List UInt8)) (m:Nat):Aw→Env→Aq→Prop:=
 XU 1 (Afa l180_0_h (again (Am3 Ap g len nn cl a b d) m) (XU 0 (Aa0 a180 fun out s'=>∃c' D,out=.ok (.BG [])∧s'=⟨[Ap,.arr g 1 nn cl (vs .str D.toList)],c'⟩∧PermIn a b d D∧SortedIn DL a b D)))
set_option maxHeartbeats 2000000 in
theorem Apj {tl:Env} (hs:len<2^61) (ih:∀x y,y-x<b-a→Aez Ap g len nn cl x y) {a' b' c p:Nat} {limit:Int} {wb wp:Bool} {D:Array (List UInt8)} (hab:a'+12<b') (hb:b'≤len) (hle:b'-a'≤b-a) (hlim:0≤limit) (CY:limit<2^62) (hD:D.size=len) (hB:Below DL a' b' D)
 (hR:∀R,PermIn a' b' D R→SortedIn DL a' b' R→PermIn a b d R∧SortedIn DL a b R) (hp1:a'≤p) (hp2:p<b'):
 vC (Ac tab) AsJ ([(0,.own 1 g 0 len),(1,.int .i64 a'),(2,.int .i64 b'),(3,.int .i64 limit),(8,.bool wb),(9,.bool wp),(10,.int .i64 (b'-a':Nat)),(11,.int .i64 p)]++tl) ⟨[Ap,.arr g 1 nn cl (vs .str D.toList)],c⟩ (YQ Ap g len nn cl a b d (b'-a')):=by
 unfold YQ
 (conv=>whnf);repeat' (first  |(refine kA ?_;conv=>whnf)|(refine Br.mk (fun hc=>?_) fun hc=>?_<;>first|exact hc.elim|conv=>whnf)|(refine kB ?_))
 refine(AsA hD hb hp1 hp2 hs).mono ?_
 rintro _ _ ⟨c1,rfl,rfl⟩
 generalize hx:partition DL D a' b' p=R
 obtain⟨mid,ap,E⟩:=R
 obtain⟨m1,m2,hE,hBl,hBr,fl,fr⟩:=round_part KQ (partition_holds DL) hp1 hp2 (by omega) hB hx
 dsimp only
 conv=>whnf
 apply Ae rfl
 (conv=>whnf);repeat' (first|(refine F8 (b'-a') 8 (by omega) (by omega) ?_;conv=>whnf)|(refine kA ?_;conv=>whnf)|(refine Br.mk (fun hc=>?_) fun hc=>?_<;>first|exact hc.elim|conv=>whnf)|(refine kB ?_))
 all_goals first
  |(refine (ih a' mid (by omega) _ limit E (by omega) (by omega) m1 hlim CY hBl).mono ?_
    rintro _ _ ⟨c2,L,rfl,rfl,q1,q2⟩
    obtain⟨hBL,fin⟩:=fl L q1 q2
    conv=>whnf
    apply Ae rfl
    (conv=>whnf);repeat' (first  |(refine kA ?_;conv=>whnf)|(refine Br.mk (fun hc=>?_) fun hc=>?_<;>first|exact hc.elim|conv=>whnf)|(refine kB ?_))
    exact again.mk ⟨_,by omega,mid+1,b',_,limit,_,_,L,rfl,by omega,hb,by omega,hlim,CY,by rw[q1.1,hE,hD],hBL,fun R h1 h2=>hR R (fin R h1 h2).1 (fin R h1 h2).2,rfl,rfl⟩)
  |(refine (ih (mid+1) b' (by omega) _ limit E (by omega) hb (by omega) hlim CY hBr).mono ?_
    rintro _ _ ⟨c2,L,rfl,rfl,q1,q2⟩
    obtain⟨hBL,fin⟩:=fr L q1 q2
    conv=>whnf
    apply Ae rfl
    (conv=>whnf);repeat' (first  |(refine kA ?_;conv=>whnf)|(refine Br.mk (fun hc=>?_) fun hc=>?_<;>first|exact hc.elim|conv=>whnf)|(refine kB ?_))
    exact again.mk ⟨_,by omega,a',mid,_,limit,_,_,L,rfl,by omega,by omega,by omega,hlim,CY,by rw[q1.1,hE,hD],hBL,fun R h1 h2=>hR R (fin R h1 h2).1 (fin R h1 h2).2,rfl,rfl⟩)
theorem Apk {tl:Env} (hs:len<2^61) {a' b' c p:Nat} {limit:Int} {wb wp:Bool} {D:Array (List UInt8)} {K:Env→Aq→Prop} {Q:Aw→Env→Aq→Prop} (hab:a'+12<b') (hb:b'≤len) (hD:D.size=len) (hB:Below DL a' b' D) (hp1:a'≤p) (hp2:p<b')
 (hK:∀tl,K ([(0,.own 1 g 0 len),(1,.int .i64 a'),(2,.int .i64 b'),(3,.int .i64 limit),(8,.bool wb),(9,.bool wp),(10,.int .i64 (b'-a':Nat)),(11,.int .i64 p)]++tl) ⟨[Ap,.arr g 1 nn cl (vs .str D.toList)],c⟩)
 (hQ:∀c' mid (E:Array (List UInt8)),a'<mid→mid≤b'→E.size=len→Below DL mid b' E→(∀ R,PermIn mid b' E R→SortedIn DL mid b' R→PermIn a' b' D R∧SortedIn DL a' b' R)→
   Q (.exit 1) [(0,.own 1 g 0 len),(1,.int .i64 mid),(2,.int .i64 b'),(3,.int .i64 limit),(8,.bool wb),(9,.bool wp)] ⟨[Ap,.arr g 1 nn cl (vs .str E.toList)],c'⟩):
 vC (Ac tab) (JL AlH) ([(0,.own 1 g 0 len),(1,.int .i64 a'),(2,.int .i64 b'),(3,.int .i64 limit),(8,.bool wb),(9,.bool wp),(10,.int .i64 (b'-a':Nat)),(11,.int .i64 p)]++tl) ⟨[Ap,.arr g 1 nn cl (vs .str D.toList)],c⟩ (GX K Q):=by
 (conv=>whnf);repeat' (first|exact hK _|((with_reducible show AB _ _ _);refine BM (a'-1) ?_;conv=>whnf)|((with_reducible show AB _ _ _);refine BM (p) ?_;conv=>whnf)|(refine CJ I9 (fun hc=>?_) (fun hc=>?_)<;>conv=>whnf)|(refine kA ?_;conv=>whnf)|(refine Br.mk (fun hc=>?_) fun hc=>?_<;>first|exact hc.elim|conv=>whnf)|(refine kB ?_))
 refine(Asv hD hb hp1 hp2 hs).mono ?_
 rintro _ _ ⟨c1,rfl,rfl⟩
 generalize hx:partitionEqual DL D a' b' p=R
 obtain⟨mid,E⟩:=R
 obtain⟨m1,m2,hE,hBr,fin⟩:=round_eq KQ (partitionEqual_holds DL) (by omega) hp1 hp2 (by omega) hB hc hx
 dsimp only
 conv=>whnf
 apply Ae rfl
 (conv=>whnf);repeat' (first  |(refine kA ?_;conv=>whnf)|(refine Br.mk (fun hc=>?_) fun hc=>?_<;>first|exact hc.elim|conv=>whnf)|(refine kB ?_))
 exact hQ _ mid E m1 m2 (by omega) hBr fin
theorem Apl {tl:Env} (hs:len<2^61) {a' b' c p:Nat} {limit h:Int} {wb wp:Bool} {D:Array (List UInt8)} {K:Env→Aq→Prop} {Q:Aw→Env→Aq→Prop} (hab:a'+12<b') (hb:b'≤len) (hD:D.size=len) (hB:Below DL a' b' D)
 (hK:∀tl c (E:Array (List UInt8)),PermIn a' b' D E→K ([(0,.own 1 g 0 len),(1,.int .i64 a'),(2,.int .i64 b'),(3,.int .i64 limit),(8,.bool wb),(9,.bool wp),(10,.int .i64 (b'-a':Nat)),(11,.int .i64 p)]++tl) ⟨[Ap,.arr g 1 nn cl (vs .str E.toList)],c⟩)
 (hQ:∀c (E:Array (List UInt8)) env,PermIn a' b' D E→SortedIn DL a' b' E→Q .ret env ⟨[Ap,.arr g 1 nn cl (vs .str E.toList)],c⟩):
 vC (Ac tab) (JL AlG) ([(0,.own 1 g 0 len),(1,.int .i64 a'),(2,.int .i64 b'),(3,.int .i64 limit),(8,.bool wb),(9,.bool wp),(10,.int .i64 (b'-a':Nat)),(11,.int .i64 p),(12,.int .i64 h)]++tl) ⟨[Ap,.arr g 1 nn cl (vs .str D.toList)],c⟩ (GX K Q):=by
 (conv=>whnf);repeat' (first|exact hK _ _ _ (permIn_refl _ _ _)|(refine kA ?_;conv=>whnf)|(refine Br.mk (fun hc=>?_) fun hc=>?_<;>first|exact hc.elim|conv=>whnf)|(refine kB ?_))
 refine(Ao7 hD hb (by omega) hs).mono ?_
 rintro _ _ ⟨c1,rfl,rfl⟩
 have hp:=partialInsertionSort_holds KQ D a' b' (by omega) (by omega) hB
 generalize partialInsertionSort DL D a' b'=R at hp
 obtain⟨E,r⟩:=R
 obtain⟨q1,q2⟩:=hp
 dsimp only at q1 q2 ⊢
 conv=>whnf
 apply Ae rfl
 cases r with
 |true=>
  (conv=>whnf);repeat' (first  |(refine kA ?_;conv=>whnf)|(refine Br.mk (fun hc=>?_) fun hc=>?_<;>first|exact hc.elim|conv=>whnf)|(refine kB ?_))
  exact hQ _ E _ q1 (q2 rfl)
 |false=>
  (conv=>whnf);repeat' (first|exact hK _ _ _ q1|(refine kA ?_;conv=>whnf)|(refine Br.mk (fun hc=>?_) fun hc=>?_<;>first|exact hc.elim|conv=>whnf)|(refine kB ?_))
theorem Apm {tl:Env} (hs:len<2^61) {a' b' c p:Nat} {limit h:Int} {wb wp:Bool} {D:Array (List UInt8)} {K:Env→Aq→Prop} {Q:Aw→Env→Aq→Prop} (hab:a'+12<b') (hb:b'≤len) (hD:D.size=len) (hp1:a'≤p) (hp2:p<b')
 (hK:∀tl c (p:Nat) h (E:Array (List UInt8)),PermIn a' b' D E→a'≤p→p<b'→K ([(0,.own 1 g 0 len),(1,.int .i64 a'),(2,.int .i64 b'),(3,.int .i64 limit),(8,.bool wb),(9,.bool wp),(10,.int .i64 (b'-a':Nat)),(11,.int .i64 p),(12,.int .i64 h)]++tl) ⟨[Ap,.arr g 1 nn cl (vs .str E.toList)],c⟩):
 vC (Ac tab) (JL (FI (FI X4))) ([(0,.own 1 g 0 len),(1,.int .i64 a'),(2,.int .i64 b'),(3,.int .i64 limit),(8,.bool wb),(9,.bool wp),(10,.int .i64 (b'-a':Nat)),(11,.int .i64 p),(12,.int .i64 h)]++tl) ⟨[Ap,.arr g 1 nn cl (vs .str D.toList)],c⟩ (GX K Q):=by
 (conv=>whnf);repeat' (first|exact hK _ _ _ _ _ (permIn_refl _ _ _) hp1 hp2|(refine kA ?_;conv=>whnf)|(refine Br.mk (fun hc=>?_) fun hc=>?_<;>first|exact hc.elim|conv=>whnf)|(refine kB ?_))
 refine(AsK hD hb (by omega) hs).mono ?_
 rintro _ _ ⟨c1,E,rfl,rfl,q1⟩
 conv=>whnf
 apply Ae rfl
 have e:(b':Int)-1-((p:Int)-a')=((b'-1-(p-a'):Nat):Int):=by omega
 have hK':=fun tl=>hK tl c1 (b'-1-(p-a')) 1 E q1 (by omega) (by omega)
 rw[← e]at hK'
 (conv=>whnf);repeat' (first|exact hK' _|(refine kA ?_;conv=>whnf)|(refine Br.mk (fun hc=>?_) fun hc=>?_<;>first|exact hc.elim|conv=>whnf)|(refine kB ?_))
theorem Apn {tl:Env} (hs:len<2^61) {a' b' c:Nat} {limit:Int} {wb wp:Bool} {D:Array (List UInt8)} {K:Env→Aq→Prop} {Q:Aw→Env→Aq→Prop} (hab:a'+12<b') (hb:b'≤len) (hD:D.size=len)
 (hK:∀tl c (p:Nat) h,a'≤p→p<b'→K ([(0,.own 1 g 0 len),(1,.int .i64 a'),(2,.int .i64 b'),(3,.int .i64 limit),(8,.bool wb),(9,.bool wp),(10,.int .i64 (b'-a':Nat)),(11,.int .i64 p),(12,.int .i64 h)]++tl) ⟨[Ap,.arr g 1 nn cl (vs .str D.toList)],c⟩):
 vC (Ac tab) (JL (FI X4)) ([(0,.own 1 g 0 len),(1,.int .i64 a'),(2,.int .i64 b'),(3,.int .i64 limit),(8,.bool wb),(9,.bool wp),(10,.int .i64 (b'-a':Nat))]++tl) ⟨[Ap,.arr g 1 nn cl (vs .str D.toList)],c⟩ (GX K Q):=by
 (conv=>whnf);repeat' (first  |(refine kA ?_;conv=>whnf)|(refine Br.mk (fun hc=>?_) fun hc=>?_<;>first|exact hc.elim|conv=>whnf)|(refine kB ?_))
 refine(AsL hD hb hab hs).mono ?_
 rintro _ _ ⟨c1,p,h,ob,rfl,rfl,q1,q2⟩
 conv=>whnf
 apply Ae rfl
 (conv=>whnf);repeat' (first|exact hK _ _ _ _ q1 q2|(refine kA ?_;conv=>whnf)|(refine Br.mk (fun hc=>?_) fun hc=>?_<;>first|exact hc.elim|conv=>whnf)|(refine kB ?_))
theorem Apo {tl:Env} (hs:len<2^61) {a' b' c:Nat} {limit:Int} {wb wp:Bool} {D:Array (List UInt8)} {K:Env→Aq→Prop} {Q:Aw→Env→Aq→Prop} (hab:a'+12<b') (hb:b'≤len) (hD:D.size=len) (hlim:0<limit)
 (hK:∀tl c wb limit (E:Array (List UInt8)),0≤limit→limit<2^62→PermIn a' b' D E→K ([(0,.own 1 g 0 len),(1,.int .i64 a'),(2,.int .i64 b'),(3,.int .i64 limit),(8,.bool wb),(9,.bool wp),(10,.int .i64 (b'-a':Nat))]++tl) ⟨[Ap,.arr g 1 nn cl (vs .str E.toList)],c⟩) (CY:limit<2^62):
 vC (Ac tab) (JL X4) ([(0,.own 1 g 0 len),(1,.int .i64 a'),(2,.int .i64 b'),(3,.int .i64 limit),(8,.bool wb),(9,.bool wp),(10,.int .i64 (b'-a':Nat))]++tl) ⟨[Ap,.arr g 1 nn cl (vs .str D.toList)],c⟩ (GX K Q):=by
 cases wb with
 |true=>(conv=>whnf);repeat' (first|exact hK _ _ _ _ _ (by omega) (by omega) (permIn_refl _ _ _)|(refine kA ?_;conv=>whnf)|(refine Br.mk (fun hc=>?_) fun hc=>?_<;>first|exact hc.elim|conv=>whnf)|(refine kB ?_))
 |false=>
  (conv=>whnf);repeat' (first  |(refine kA ?_;conv=>whnf)|(refine Br.mk (fun hc=>?_) fun hc=>?_<;>first|exact hc.elim|conv=>whnf)|(refine kB ?_))
  refine(AsM hD hb hab hs).mono ?_
  rintro _ _ ⟨c1,E,ob,rfl,rfl,q1⟩
  conv=>whnf
  apply Ae rfl
  (conv=>whnf);repeat' (first|exact hK _ _ _ _ _ (by omega) (by omega) q1|(refine kA ?_;conv=>whnf)|(refine Br.mk (fun hc=>?_) fun hc=>?_<;>first|exact hc.elim|conv=>whnf)|(refine kB ?_))
theorem Apq {a' b' c:Nat} {limit:Int} {wb wp:Bool} {D:Array (List UInt8)} {K:Env→Aq→Prop} {Q:Aw→Env→Aq→Prop} (hs:len<2^61) (hab:a'≤b') (hb:b'≤len)
 (hK:∀tl,K ([(0,.own 1 g 0 len),(1,.int .i64 a'),(2,.int .i64 b'),(3,.int .i64 limit),(8,.bool wb),(9,.bool wp),(10,.int .i64 (b'-a':Nat))]++tl) ⟨[Ap,.arr g 1 nn cl (vs .str D.toList)],c⟩):
 vC (Ac tab) (JL (Qp l180_0_b)) [(0,.own 1 g 0 len),(1,.int .i64 a'),(2,.int .i64 b'),(3,.int .i64 limit),(8,.bool wb),(9,.bool wp)] ⟨[Ap,.arr g 1 nn cl (vs .str D.toList)],c⟩ (GX K Q):=by
 rw[show ((b'-a':Nat):Int)=(b':Int)-a' by omega]at hK
 (conv=>whnf);repeat' (first|exact hK []|(refine kA ?_;conv=>whnf)|(refine Br.mk (fun hc=>?_) fun hc=>?_<;>first|exact hc.elim|conv=>whnf)|(refine kB ?_))
theorem Aps {tl:Env} (hs:len<2^61) {a' b' c:Nat} {limit:Int} {wb wp:Bool} {D:Array (List UInt8)} {K:Env→Aq→Prop} {Q:Aw→Env→Aq→Prop} (hab:a'≤b') (hb:b'≤len) (hD:D.size=len)
 (hK:∀tl c,a'+12<b'→K ([(0,.own 1 g 0 len),(1,.int .i64 a'),(2,.int .i64 b'),(3,.int .i64 limit),(8,.bool wb),(9,.bool wp),(10,.int .i64 (b'-a':Nat))]++tl) ⟨[Ap,.arr g 1 nn cl (vs .str D.toList)],c⟩)
 (hQ:∀c (E:Array (List UInt8)) env,PermIn a' b' D E→SortedIn DL a' b' E→Q .ret env ⟨[Ap,.arr g 1 nn cl (vs .str E.toList)],c⟩):
 vC (Ac tab) (JL (FI (Qp l180_0_b))) ([(0,.own 1 g 0 len),(1,.int .i64 a'),(2,.int .i64 b'),(3,.int .i64 limit),(8,.bool wb),(9,.bool wp),(10,.int .i64 (b'-a':Nat))]++tl) ⟨[Ap,.arr g 1 nn cl (vs .str D.toList)],c⟩ (GX K Q):=by
 (conv=>whnf);repeat' (first|exact hK _ _ (by omega)|(refine kA ?_;conv=>whnf)|(refine Br.mk (fun hc=>?_) fun hc=>?_<;>first|exact hc.elim|conv=>whnf)|(refine kB ?_))
 refine(AsN hD hb hs (by omega)).mono ?_
 rintro _ _ ⟨c1,rfl,rfl⟩
 conv=>whnf
 apply Ae rfl
 (conv=>whnf);repeat' (first  |(refine kA ?_;conv=>whnf)|(refine Br.mk (fun hc=>?_) fun hc=>?_<;>first|exact hc.elim|conv=>whnf)|(refine kB ?_))
 obtain⟨q1,q2⟩:=insertionSort_holds KQ D a' b' hab (by omega)
 exact hQ _ _ _ q1 q2
theorem AlI {tl:Env} (hs:len<2^61) {a' b' c:Nat} {limit:Int} {wb wp:Bool} {D:Array (List UInt8)} {K:Env→Aq→Prop} {Q:Aw→Env→Aq→Prop} (hab:a'+12<b') (hb:b'≤len) (hD:D.size=len) (hlim:0≤limit)
 (hK:∀tl c,0<limit→K ([(0,.own 1 g 0 len),(1,.int .i64 a'),(2,.int .i64 b'),(3,.int .i64 limit),(8,.bool wb),(9,.bool wp),(10,.int .i64 (b'-a':Nat))]++tl) ⟨[Ap,.arr g 1 nn cl (vs .str D.toList)],c⟩)
 (hQ:∀c (E:Array (List UInt8)) env,PermIn a' b' D E→SortedIn DL a' b' E→Q .ret env ⟨[Ap,.arr g 1 nn cl (vs .str E.toList)],c⟩):
 vC (Ac tab) (JL (FI (FI (Qp l180_0_b)))) ([(0,.own 1 g 0 len),(1,.int .i64 a'),(2,.int .i64 b'),(3,.int .i64 limit),(8,.bool wb),(9,.bool wp),(10,.int .i64 (b'-a':Nat))]++tl) ⟨[Ap,.arr g 1 nn cl (vs .str D.toList)],c⟩ (GX K Q):=by
 (conv=>whnf);repeat' (first|exact hK _ _ (by omega)|(refine kA ?_;conv=>whnf)|(refine Br.mk (fun hc=>?_) fun hc=>?_<;>first|exact hc.elim|conv=>whnf)|(refine kB ?_))
 refine(Apt hD hb hs (by omega)).mono ?_
 rintro _ _ ⟨c1,rfl,rfl⟩
 conv=>whnf
 apply Ae rfl
 (conv=>whnf);repeat' (first  |(refine kA ?_;conv=>whnf)|(refine Br.mk (fun hc=>?_) fun hc=>?_<;>first|exact hc.elim|conv=>whnf)|(refine kB ?_))
 obtain⟨q1,q2⟩:=heapSort_holds KQ D a' b' (by omega) (by omega)
 exact hQ _ _ _ q1 q2
theorem AlJ (hs:len<2^61) (ih:∀x y,y-x<b-a→Aez Ap g len nn cl x y) {a' b' c:Nat} {limit:Int} {wb wp:Bool} {D:Array (List UInt8)} (hab:a'≤b') (hb:b'≤len) (hle:b'-a'≤b-a) (hlim:0≤limit) (CY:limit<2^62) (hD:D.size=len) (hB:Below DL a' b' D)
 (hR:∀R,PermIn a' b' D R→SortedIn DL a' b' R→PermIn a b d R∧SortedIn DL a b R):
 vC (Ac tab) (Qp l180_0_b) [(0,.own 1 g 0 len),(1,.int .i64 a'),(2,.int .i64 b'),(3,.int .i64 limit),(8,.bool wb),(9,.bool wp)] ⟨[Ap,.arr g 1 nn cl (vs .str D.toList)],c⟩ (YQ Ap g len nn cl a b d (b'-a')):=by
 have hret:∀c (E:Array (List UInt8)) env,PermIn a b d E→SortedIn DL a b E→YQ Ap g len nn cl a b d (b'-a') .ret env ⟨[Ap,.arr g 1 nn cl (vs .str E.toList)],c⟩:=by
  intro c E env h1 h2
  unfold YQ
  conv=>whnf
  apply Ae rfl
  exact⟨_,E,rfl,rfl,h1,h2⟩
 refine Dl (a:=JL (Qp l180_0_b)) (b:=FI (Qp l180_0_b)) (Apq hs hab hb fun tl1=>?_)
 refine Dl (a:=JL (FI (Qp l180_0_b))) (b:=FI (FI (Qp l180_0_b))) (Aps hs hab hb hD (fun Zw c2 h12=>?_) fun c E env h1 h2=>hret c E env (hR E h1 h2).1 (hR E h1 h2).2)
 refine Dl (a:=JL (FI (FI (Qp l180_0_b)))) (b:=X4) (AlI hs h12 hb hD hlim (fun tl3 c3 hl0=>?_) fun c E env h1 h2=>hret c E env (hR E h1 h2).1 (hR E h1 h2).2)
 refine Dl (a:=JL X4) (b:=FI X4) (Apo hs h12 hb hD hl0 (fun tl4 c4 wb4 Acz E4 hl4 Wv p4=>?_) CY)
 have hD4:E4.size=len:=by rw[p4.1,hD]
 refine Dl (a:=JL (FI X4)) (b:=FI (FI X4)) (Apn hs h12 hb hD4 fun tl5 c5 p h hp1 hp2=>?_)
 refine Dl (a:=JL (FI (FI X4))) (b:=AlG) (Apm hs h12 hb hD4 hp1 hp2 fun tl6 c6 p6 h6 E6 q6 Wx Wy=>?_)
 have WA:=permIn_trans _ _ _ _ _ p4 q6
 have hD6:E6.size=len:=by rw[WA.1,hD]
 have hB6:=hB.perm (by omega) WA
 refine Dl (a:=JL AlG) (b:=AlH) (Apl hs h12 hb hD6 hB6 (fun tl7 c7 E7 q7=>?_) fun c E env h1 h2=>hret c E env (hR E (permIn_trans _ _ _ _ _ WA h1) h2).1 (hR E (permIn_trans _ _ _ _ _ WA h1) h2).2)
 have p7:=permIn_trans _ _ _ _ _ WA q7
 have hD7:E7.size=len:=by rw[p7.1,hD]
 have hB7:=hB.perm (by omega) p7
 have hR7:∀R,PermIn a' b' E7 R→SortedIn DL a' b' R→PermIn a b d R∧SortedIn DL a b R:=fun R h1 h2=>hR R (permIn_trans _ _ _ _ _ p7 h1) h2
 refine Dl (a:=JL AlH) (b:=AsJ) (Apk hs h12 hb hD7 hB7 Wx Wy (fun tl8=>Apj hs ih h12 hb hle hl4 Wv hD7 hB7 hR7 Wx Wy) fun c' mid E m1 m2 hE hBE fin=>?_)
 unfold YQ
 conv=>whnf
 exact again.mk ⟨_,by omega,mid,b',_,Acz,_,_,E,rfl,by omega,hb,by omega,hl4,Wv,hE,hBE,fun R h1 h2=>hR7 R (fin R h1 h2).1 (fin R h1 h2).2,rfl,rfl⟩
end
theorem AsO {Ap:Obj} {g len:Nat} {nn cl:Bool} (hs:len<2^61):∀n a b,b-a≤n→Aez Ap g len nn cl a b:=by
 intro n
 induction n using Nat.strongRecOn with
 |ind n IH=>
  intro a b hn
  have ih:∀x y,y-x<b-a→Aez Ap g len nn cl x y:=fun x y h=>IH (y-x) (by omega) x y (Nat.le_refl _)
  clear IH hn
  intro c limit d hd hb hab hlim CY hB
  refine Ah rfl rfl ?_
  (conv=>whnf);repeat' (first  |(refine kA ?_;conv=>whnf)|(refine Br.mk (fun hc=>?_) fun hc=>?_<;>first|exact hc.elim|conv=>whnf)|(refine kB ?_))
  refine Af (Am3 Ap g len nn cl a b d) ?_ _ _ _ ⟨a,b,_,limit,true,true,d,rfl,hab,hb,Nat.le_refl _,hlim,CY,hd,hB,fun R h1 h2=>⟨h1,h2⟩,rfl,rfl⟩
  rintro _ _ _ ⟨a',b',c,limit,wb,wp,D,rfl,hab',hb',hle,hlim,CY,hD,hB',hR,rfl,rfl⟩
  refine⟨rfl,?_⟩
  exact AlJ hs ih hab' hb' hle hlim CY hD hB' hR
theorem AkG {Ap:Obj} {g len c:Nat} {nn cl:Bool} {L:List (List UInt8)} (hl:L.length=len) (hs:len<2^61) {limit:Int} (h0:0≤limit) (h1:limit<2^62):
 Am (Ac tab) 180 [.own 1 g 0 len,.int .i64 0,.int .i64 len,.int .i64 limit] ⟨[Ap,.arr g 1 nn cl (vs .str L)],c⟩ fun out s'=>∃c' W,out=.ok (.BG [])∧s'=⟨[Ap,.arr g 1 nn cl (vs .str W)],c'⟩∧W.Perm L∧W.Pairwise (fun x y=>DL y x=false):=by
 have:=AsO (Ap:=Ap) (g:=g) (nn:=nn) (cl:=cl) hs len 0 len (by omega) c limit L.toArray (by simpa using hl) (Nat.le_refl _) (by omega) h0 h1 (Or.inl rfl)
 refine this.mono ?_
 rintro _ _ ⟨c',D,rfl,rfl,p1,p2⟩
 refine⟨c',D.toList,rfl,rfl,Vg hl p1,Pz (by rw[p1.1];simpa using hl) p2⟩
end
section
open Go.Sort
theorem Aha {Ap:Obj} {g len c:Nat} {nn cl:Bool} {L:List (List UInt8)} (hl:L.length=len) (hs:len<2^61):
 Am (Ac tab) 98 [.own 1 g 0 len] ⟨[Ap,.arr g 1 nn cl (vs .str L)],c⟩ fun out s'=>∃c' W,out=.ok (.BG [])∧s'=⟨[Ap,.arr g 1 nn cl (vs .str W)],c'⟩∧W.Perm L∧W.Pairwise (fun x y=>DL y x=false):=by
 have hb:bitsLen len≤62:=(bitsLen_le_iff len 62).2 (by omega)
 refine Ah rfl rfl ?_
 (conv=>whnf);repeat' (first|(refine wrapN len rfl rfl (by show _<2^64;omega) ?_;conv=>whnf)|(refine Aa (OJ (n:=len) (by omega)) ?_;rintro _ rfl;conv=>whnf)|(refine kA ?_;conv=>whnf)|(refine Br.mk (fun hc=>?_) fun hc=>?_<;>first|exact hc.elim|conv=>whnf)|(refine kB ?_))
 refine(AkG hl hs (by omega) (by omega)).mono ?_
 rintro _ _ ⟨c',W,rfl,rfl,h1,h2⟩
 conv=>whnf
 apply Ae rfl
 (conv=>whnf);repeat' (first  |(refine kA ?_;conv=>whnf)|(refine Br.mk (fun hc=>?_) fun hc=>?_<;>first|exact hc.elim|conv=>whnf)|(refine kB ?_))
 exact⟨_,W,rfl,rfl,h1,h2⟩
end
section
open Go.Sort
theorem AmU {Ap:Obj} {g len c:Nat} {nn cl:Bool} {d:Array (List UInt8)} (hl:d.size=len) (hs:len<2^61):
 Am (Ac tab) 99 [.own 1 g 0 len] ⟨[Ap,.arr g 1 nn cl (vs .str d.toList)],c⟩ fun out s'=>∃c' T,out=.ok (.own 1 g 0 (Jd d len).length)∧s'=⟨[Ap,.arr g 1 nn cl (vs .str (Jd d len++T))],c'⟩:=by
 have hend:(∀ j,0<j→j<len→¬d[j]! =d[j-1]!)→Jd d len=d.toList:=fun h=>by
  rw[Nv len (by omega) h,List.take_of_length_le (by simp[hl])]
 refine Ah rfl rfl ?_
 (conv=>whnf);repeat' (first  |(refine kA ?_;conv=>whnf)|(refine Br.mk (fun hc=>?_) fun hc=>?_<;>first|exact hc.elim|conv=>whnf)|(refine kB ?_))
 ·have e:=hend (fun j h0 hj=>absurd h0 (by omega))
  rw[e,Array.length_toList,hl]
  exact⟨_,[],rfl,by rw[List.append_nil]⟩
 refine Af (fun m env s=>∃(k c:Nat),m=len-k∧0<k∧(∀ j,0<j→j<k→¬d[j]! =d[j-1]!)∧env=[(0,.own 1 g 0 len),(3,.int .i64 k)]∧s=⟨[Ap,.arr g 1 nn cl (vs .str d.toList)],c⟩) ?_ _ _ _ ⟨1,c,rfl,by omega,fun j h0 h1=>absurd h0 (by omega),rfl,rfl⟩
 rintro _ _ _ ⟨k,c,rfl,hk0,hk,rfl,rfl⟩
 refine⟨rfl,?_⟩
 (conv=>whnf);repeat' (first|((with_reducible show AB _ _ _);refine BM (k) ?_;conv=>whnf)|((with_reducible show AB _ _ _);refine BM (k-1) ?_;conv=>whnf)|(refine kA ?_;conv=>whnf)|(refine Br.mk (fun hc=>?_) fun hc=>?_<;>first|exact hc.elim|conv=>whnf)|(refine kB ?_))
 ·have h1:Jd d (k+1)=Jd d k:=Gp hk0 (by assumption)
  have h2:Jd d k=d.toList.take k:=Nv k (by omega) hk
  obtain⟨k,rfl⟩:∃k',k=k'+1:=⟨k-1,by omega⟩
  refine Af (fun m env s=>∃(k2 c w:Nat) (E:Array (List UInt8)),m=len-(k+1)-k2∧0<k2∧k+1+k2≤len∧E.size=len∧w=(Jd d (k+1+k2)).length∧w<k+1+k2∧E.toList.take w=Jd d (k+1+k2)∧(∀ j,k+1+k2≤j+1→j<len→E[j]! =d[j]!)∧env=[(0,.own 1 g 0 len),(3,.int .i64 w),(4,.own 1 g (k+1) (len-(k+1))),(5,.int .i64 k2)]∧s=⟨[Ap,.arr g 1 nn cl (vs .str E.toList)],c⟩) ?_ _ _ _ ⟨1,_,k+1,d,rfl,by omega,by omega,hl,by rw[h1,h2];simp;omega,by omega,by rw[h1,h2],fun j _ _=>rfl,rfl,rfl⟩
  rintro _ _ _ ⟨k2,c,w,E,rfl,hk2,hkl,hE,hw,hwk,hW,V8,rfl,rfl⟩
  refine⟨rfl,?_⟩
  (conv=>whnf);repeat' (first|(apply Au;(· exact nPn (k+1+k2) (by omega) (by first|omega|(simp;omega)));conv=>whnf)|(apply Au;(· exact nPn (k+1+k2-1) (by omega) (by first|omega|(simp;omega)));conv=>whnf)|((with_reducible show AB _ _ _);refine BM (w) ?_;conv=>whnf)|((with_reducible show eqK _ _);refine Dn cellsS (w) ?_;conv=>whnf)|(refine kA ?_;conv=>whnf)|(refine Br.mk (fun hc=>?_) fun hc=>?_<;>first|exact hc.elim|conv=>whnf)|(refine kB ?_))
  ·have e1:=V8 (k+1+k2) (by omega) (by omega)
   have e2:=V8 (k+1+k2-1) (by omega) (by omega)
   rw[e1,e2]at hc
   exact again.mk ⟨_,by omega,k2+1,_,w,E,rfl,by omega,by omega,hE,by rw[hw,←Gp (d:=d) (n:=k+1+k2) (by omega) hc];rfl,by omega,by rw[hW,←Gp (d:=d) (n:=k+1+k2) (by omega) hc];rfl,fun j h1 h2=>V8 j (by omega) h2,rfl,rfl⟩
  ·have e1:=V8 (k+1+k2) (by omega) (by omega)
   have e2:=V8 (k+1+k2-1) (by omega) (by omega)
   rw[e1,e2]at hc
   have e3:Jd d (k+1+(k2+1))=Jd d (k+1+k2)++[d[k+1+k2]!]:=Mc fun _=>hc
   refine again.mk ⟨_,by omega,k2+1,_,w+1,E.setIfInBounds w E[k+1+k2]!,rfl,by omega,by omega,by simpa using hE,by rw[e3,List.length_append,←hw];rfl,by omega,?_,fun j h1 h2=>?_,rfl,rfl⟩
   ·rw[Array.toList_setIfInBounds,List.take_succ_eq_append_getElem (by simp;omega),e3,←hW,e1]
    simp[List.take_set_of_le]
   ·rw[← V8 j (by omega) h2,getElem!_pos _ j (by simp;omega),getElem!_pos E j (by omega),Array.getElem_setIfInBounds_ne (by omega) (by omega)]
  ·have AgX:k+1+k2=len:=by omega
   rw[AgX]at hW hw hwk
   refine Ae (clr (n:=len-w) rfl rfl (by simp;omega) (by omega)) ?_
   have e4:List.take (Int.toNat (w:Int)) (vs .str E.toList)=vs .str (Jd d len++[]):=by
        rw[List.append_nil,←hW];simp[vs,List.map_take]
   (conv=>whnf);repeat' (first  |(refine kA ?_;conv=>whnf)|(refine Br.mk (fun hc=>?_) fun hc=>?_<;>first|exact hc.elim|conv=>whnf)|(refine kB ?_))
   refine⟨c,[],by rw[← hw];rfl,?_⟩
   rw[← e4]
   rfl
 ·exact again.mk ⟨_,by omega,k+1,_,rfl,by omega,fun j h0 hj=>by
   rcases Nat.lt_or_ge j k with h|h
   ·exact hk j h0 h
   ·obtain rfl:j=k:=by omega
    first|exact hc|assumption,rfl,rfl⟩
 ·have e:=hend (fun j h0 hj=>hk j h0 (by omega))
  rw[e,Array.length_toList,hl]
  exact⟨_,[],rfl,by rw[List.append_nil]⟩
end
section
open Go.Sort
theorem Ali (x y:List UInt8) (h1:DL x y=false) (h2:DL y x=false):x=y:=by
 rw[Aib]at h1 h2
 simp only[ltStr,decide_eq_false_iff_not]at h1 h2
 exact List.le_antisymm (List.not_lt.1 h2) (List.not_lt.1 h1)
def XL (l:List (List UInt8)):Prop:=l.Pairwise (fun x y=>DL x y=true)
theorem Xg {a b:List (List UInt8)} (ha:XL a) (hb:XL b) (h:∀x,x∈a↔x∈b):a=b:=Qm KQ ha hb h
theorem Aeq {W:List (List UInt8)} (hs:W.Pairwise (fun x y=>DL y x=false)):XL (Jd W.toArray W.length)∧∀x,x∈Jd W.toArray W.length↔x∈W:=by
 have h:SortedIn DL 0 W.toArray.size W.toArray:=by
  intro i j _ hij hj
  have hj':j<W.length:=by simpa using hj
  have:=List.pairwise_iff_getElem.1 hs i j (by omega) hj' hij
  rw[getElem!_pos W.toArray j (by simpa using hj'),getElem!_pos W.toArray i (by simp;omega)]
  simpa using this
 refine⟨Acl KQ Ali h W.length (by simp),fun x=>?_⟩
 rw[QX W.length (by simp)]
 simp
def EH (N:List GN):List (List UInt8):=N.flatMap GN.labels
def typesOf (E:List GE):List (List UInt8):=E.map GE.ty
theorem XZ {N:List GN} {i:Nat} (h:i<N.length):EH (N.take (i+1))=EH (N.take i)++(N[i]).labels:=by
 rw[EH,List.take_succ_eq_append_getElem h,List.flatMap_append];simp[EH]
theorem Z4 {N:List GE} {i:Nat} (h:i<N.length):typesOf (N.take (i+1))=typesOf (N.take i)++[(N[i]).ty]:=by
 rw[typesOf,List.take_succ_eq_append_getElem h,List.map_append];simp[typesOf]
theorem AjY {g:GG} (hg:g.ok) (hN:g.nodes.length≤2000) (hL:∀n∈g.nodes,n.labels.length≤2000):Ag (Ac tab) 52 [g.av] (fun v=>∃nn R,v=.sl nn (vs .str R)∧XL R∧∀x,x∈R↔x∈EH g.nodes):=by
 refine Ad rfl rfl ?_
 (conv=>whnf);repeat' (first  |(refine kA ?_;conv=>whnf)|(refine Br.mk (fun hc=>?_) fun hc=>?_<;>first|exact hc.elim|conv=>whnf)|(refine kB ?_))
 refine Af (fun m env s=>∃(i c n go:Nat) (nn:Bool) (L:List (List UInt8)),m=g.nodes.length-i∧i≤g.nodes.length∧L=EH (g.nodes.take i)∧n=L.length∧n≤2000*i∧env=[(3,.own 1 go 0 n),(7,.sl g.nn (vs GN.av g.nodes)),(8,.int .i64 g.nodes.length),(9,.int .i64 i)]∧s=⟨[.arr 0 4 true true [g.av],.arr go 1 nn true (vs .str L)],c⟩) ?_ _ _ _ ⟨0,_,0,_,_,[],rfl,by omega,rfl,rfl,by omega,by rw[← lV (f:=GN.av) g.nodes];rfl,rfl⟩
 rintro _ _ _ ⟨i,c,n,go,nn,L,rfl,hin,hL0,hn,hni,rfl,rfl⟩
 refine⟨rfl,?_⟩
 have hat:∀h:i<g.nodes.length,(g.nodes[i]).labels.length≤2000:=fun h=>hL _ (List.getElem_mem _)
 (conv=>whnf);repeat' (first|(refine P6 rfl cellsS hn (by have:=hat (by omega);omega) (fun b=>?_);conv=>whnf)|(refine kA ?_;conv=>whnf)|(refine Br.mk (fun hc=>?_) fun hc=>?_<;>first|exact hc.elim|conv=>whnf)|(refine kB ?_))
 ·have:=hat (by omega)
  exact again.mk ⟨_,by omega,i+1,_,_,_,_,_,rfl,by omega,by rw[hL0,←XZ (by omega)],by simp,by omega,rfl,rfl⟩
 ·rw[CQ hc]at hL0
  refine(Aha (L:=L) hn.symm (by omega)).mono ?_
  rintro _ _ ⟨c1,W,rfl,rfl,h1,h2⟩
  obtain⟨q1,q2⟩:=Aeq h2
  have hw:=h1.length_eq
  conv=>whnf
  apply Ae rfl
  (conv=>whnf);repeat' (first  |(refine kA ?_;conv=>whnf)|(refine Br.mk (fun hc=>?_) fun hc=>?_<;>first|exact hc.elim|conv=>whnf)|(refine kB ?_))
  refine(AmU (d:=W.toArray) (by simp;omega) (by omega)).mono ?_
  rintro _ _ ⟨c2,T,rfl,rfl⟩
  rw[show n=W.length by omega]
  conv=>whnf
  apply Ae rfl
  (conv=>whnf);repeat' (first  |(refine kA ?_;conv=>whnf)|(refine Br.mk (fun hc=>?_) fun hc=>?_<;>first|exact hc.elim|conv=>whnf)|(refine kB ?_))
  refine⟨nn,_,by rw[Ik];simp,q1,fun x=>?_⟩
  rw[q2,h1.mem_iff,hL0]
theorem Agp {g:GG} (hg:g.ok) (hN:g.edges.length≤4000):Ag (Ac tab) 54 [g.av] (fun v=>∃nn R,v=.sl nn (vs .str R)∧XL R∧∀x,x∈R↔x∈typesOf g.edges):=by
 refine Ad rfl rfl ?_
 (conv=>whnf);repeat' (first  |(refine kA ?_;conv=>whnf)|(refine Br.mk (fun hc=>?_) fun hc=>?_<;>first|exact hc.elim|conv=>whnf)|(refine kB ?_))
 refine Af (fun m env s=>∃(i c n go:Nat) (nn:Bool) (L:List (List UInt8)),m=g.edges.length-i∧i≤g.edges.length∧L=typesOf (g.edges.take i)∧n=L.length∧n≤i∧env=[(3,.own 1 go 0 n),(7,.sl g.en (vs GE.av g.edges)),(8,.int .i64 g.edges.length),(9,.int .i64 i)]∧s=⟨[.arr 0 4 true true [g.av],.arr go 1 nn true (vs .str L)],c⟩) ?_ _ _ _ ⟨0,_,0,_,_,[],rfl,by omega,rfl,rfl,by omega,by rw[← lV (f:=GE.av) g.edges];rfl,rfl⟩
 rintro _ _ _ ⟨i,c,n,go,nn,L,rfl,hin,hL0,hn,hni,rfl,rfl⟩
 refine⟨rfl,?_⟩
 (conv=>whnf);repeat' (first|(refine Dt (x:=(g.edges[i]).ty) cellsS hn (by omega) ?_;conv=>whnf)|(refine kA ?_;conv=>whnf)|(refine Br.mk (fun hc=>?_) fun hc=>?_<;>first|exact hc.elim|conv=>whnf)|(refine kB ?_))
 ·exact again.mk ⟨_,by omega,i+1,_,_,_,_,_,rfl,by omega,by rw[hL0,←Z4 (by omega)],by simp,by omega,rfl,rfl⟩
 ·rw[CQ hc]at hL0
  refine(Aha (L:=L) hn.symm (by omega)).mono ?_
  rintro _ _ ⟨c1,W,rfl,rfl,h1,h2⟩
  obtain⟨q1,q2⟩:=Aeq h2
  have hw:=h1.length_eq
  conv=>whnf
  apply Ae rfl
  (conv=>whnf);repeat' (first  |(refine kA ?_;conv=>whnf)|(refine Br.mk (fun hc=>?_) fun hc=>?_<;>first|exact hc.elim|conv=>whnf)|(refine kB ?_))
  refine(AmU (d:=W.toArray) (by simp;omega) (by omega)).mono ?_
  rintro _ _ ⟨c2,T,rfl,rfl⟩
  rw[show n=W.length by omega]
  conv=>whnf
  apply Ae rfl
  (conv=>whnf);repeat' (first  |(refine kA ?_;conv=>whnf)|(refine Br.mk (fun hc=>?_) fun hc=>?_<;>first|exact hc.elim|conv=>whnf)|(refine kB ?_))
  refine⟨nn,_,by rw[Ik];simp,q1,fun x=>?_⟩
  rw[q2,h1.mem_iff,hL0]
theorem IV {α:Type} [DecidableEq α]:∀{R W:List α},R.Nodup→(∀ x∈R,x∈W)→R.length≤W.length
 |[],W,_,_=>by simp
 |a::R,W,h,hs=>by
  obtain⟨h1,h2⟩:=List.nodup_cons.1 h
  have ha:a∈W:=hs a (by simp)
  have:=IV (R:=R) (W:=W.erase a) h2 fun x hx=>(List.mem_erase_of_ne (by rintro rfl;exact h1 hx)).2 (hs x (by simp[hx]))
  rw[List.length_erase_of_mem ha]at this
  have:=List.length_pos_of_mem ha
  simp;omega
end
section
open Go.Sort
end
def At9 (g:GG) (v:AV):Prop:=∃(ln tn un vn:Bool) (R T:List (List UInt8)) (O I:List (Bool×List Int)),
 v=.BG [.agg [.int .i64 g.nodes.length,.int .i64 g.edges.length,.sl ln (vs CN.av (cnts (Ij g.nodes) R)),.sl tn (vs CN.av (cnts (Em g.edges) T)),.sl un (vs LV O),.sl vn (vs LV I)],.int .i64 0]∧
 XL R∧(∀ x,x∈R↔x∈EH g.nodes)∧XL T∧(∀ x,x∈T↔x∈typesOf g.edges)∧IQ g 1 T O∧IQ g 2 T I
theorem IU {R:List (List UInt8)} (h:XL R):R.Nodup:=by
 refine List.Pairwise.imp (fun h e=>?_) h
 subst e
 rw[KQ.irrefl]at h;exact Bool.noConfusion h
theorem VH {R:List (List UInt8)}:∀{N:List GN},(∀ n∈N,n.labels.length≤2000)→(EH N).length≤N.length*2000
 |[],_=>by simp[EH]
 |n::N,h=>by
  have h1:=h n (List.mem_cons_self ..)
  have h2:=VH (R:=R) (N:=N) fun m hm=>h m (List.mem_cons_of_mem _ hm)
  simp only[EH,List.flatMap_cons,List.length_append,List.length_cons]at*
  omega
theorem Om {α:Type} {f:α→AV} {L:List α} {σ:List Obj} {n o g es len:Nat} {nn:Bool} (h:nth σ o=some (.arr g es nn true (vs f L))) (hl:len=L.length):snap σ (n+1) (.own o g 0 len)=some (.sl nn (vs f L)):=by
 subst hl
 simp only[snap,h]
 rw[if_pos ⟨trivial,by rw[lV];omega⟩,if_pos trivial,Ik,List.drop_zero,List.take_length]
theorem Pm {σ:List Obj} {n:Nat} {v a:AV} {vs b:List AV} (h1:snap σ n v=some a) (h2:EW σ n vs=some b):EW σ (n+1) (v::vs)=some (a::b):=by
 rw[EW,h1,h2]
theorem Aav {σ:List Obj} {n:Nat} {k:IntKind} {z:Int}:snap σ (n+1) (.int k z)=some (.int k z):=by simp only[snap]
theorem Ago {σ:List Obj} {n:Nat} {l l':List AV} (h:EW σ n l=some l'):snap σ (n+1) (.agg l)=some (.agg l'):=by simp only[snap,h,Option.map]
theorem Ame {σ:List Obj} {N E:Int} {a b c d a' b' c' d':AV} (ha:∀n,snap σ (n+1) a=some a') (hb:∀n,snap σ (n+1) b=some b') (hc:∀n,snap σ (n+1) c=some c') (hd:∀n,snap σ (n+1) d=some d') {m:Nat}:
 snap σ (m+20) (.agg [.int .i64 N,.int .i64 E,a,b,c,d])=some (.agg [.int .i64 N,.int .i64 E,a',b',c',d']):=
 Ago (n:=m+19) (Pm (n:=m+18) Aav (Pm (n:=m+17) Aav (Pm (n:=m+16) (ha _) (Pm (n:=m+15) (hb _) (Pm (n:=m+14) (hc _) (Pm (n:=m+13) (hd _) (by rw[EW])))))))
theorem Amf {m:Nat} {σ:List Obj} {N E:Int} {i j k ga gb gc n:Nat} {lab lab':AV} {L:List CN} {O I:List (Bool×List Int)} (hl:∀n,snap σ (n+1) lab=some lab')
 (h1:nth σ i=some (.arr ga 2 true true (vs CN.av L))) (h2:nth σ j=some (.arr gb 1 true true (vs LV O))) (h3:nth σ k=some (.arr gc 1 true true (vs LV I))) (e1:n=L.length) (e2:n=O.length) (e3:n=I.length):
 snap σ (m+20) (.agg [.int .i64 N,.int .i64 E,lab,.own i ga 0 n,.own j gb 0 n,.own k gc 0 n])=some (.agg [.int .i64 N,.int .i64 E,lab',.sl true (vs CN.av L),.sl true (vs LV O),.sl true (vs LV I)]):=
 Ame (m:=m) hl (fun _=>Om h1 e1) (fun _=>Om h2 e2) (fun _=>Om h3 e3)
theorem Aua {g:GG} (hg:g.ok) (hc0:AZ g≠0):Ag (Ac tab) 25 [g.av] (· =.BG [.agg [.int .i64 0,.int .i64 0,.sl false [],.sl false [],.sl false [],.sl false []],.int .i64 (AZ g)]):=by
 refine Ad rfl rfl ?_
 (conv=>whnf);repeat' (first|(refine Aa (VI hg) ?_;rintro _ rfl;conv=>whnf)|(refine kA ?_;conv=>whnf)|(refine Br.mk (fun hc=>?_) fun hc=>?_<;>first|exact hc.elim|conv=>whnf)|(refine kB ?_))
 rfl
set_option maxHeartbeats 1000000 in
theorem ofP {g:GG} (hg:g.ok) (hN:g.nodes.length≤2000) (hE:g.edges.length≤4000) (hc0:AZ g=0) (hL:∀n∈g.nodes,n.labels.length≤2000):Ag (Ac tab) 25 [g.av] (At9 g):=by
 refine Ad rfl rfl ?_
 (conv=>whnf);repeat' (first|(refine Aa (VI hg) ?_;rintro _ rfl;conv=>whnf)|(refine kA ?_;conv=>whnf)|(refine Br.mk (fun hc=>?_) fun hc=>?_<;>first|exact hc.elim|conv=>whnf)|(refine kB ?_))
 refine Aa (AjY hg hN hL) ?_
 rintro _ ⟨nn,R,rfl,hi,hm⟩
 have hR:R.length≤100000000:=by
  have h1:=IV (IU hi) fun x hx=>(hm x).1 hx
  have h2:=VH (R:=R) hL
  omega
 (conv=>whnf);repeat' (first  |(refine kA ?_;conv=>whnf)|(refine Br.mk (fun hc=>?_) fun hc=>?_<;>first|exact hc.elim|conv=>whnf)|(refine kB ?_))
 refine Auc hg hN hR ?_ ?_
 ·intro hR0 c' tl
  (conv=>whnf);repeat' (first  |(refine kA ?_;conv=>whnf)|(refine Br.mk (fun hc=>?_) fun hc=>?_<;>first|exact hc.elim|conv=>whnf)|(refine kB ?_))
  refine Aa (Agp hg hE) ?_
  rintro _ ⟨nt,T,rfl,ti,tm⟩
  have hT:T.length≤100000000:=by
   have h1:=IV (IU ti) fun x hx=>(tm x).1 hx
   simp only[typesOf,List.length_map]at h1
   omega
  (conv=>whnf);repeat' (first  |(refine kA ?_;conv=>whnf)|(refine Br.mk (fun hc=>?_) fun hc=>?_<;>first|exact hc.elim|conv=>whnf)|(refine kB ?_))
  refine Aud hN hE hT ?_ ?_
  ·intro hT0 c' tl
   (conv=>whnf);repeat' (first  |(refine kA ?_;conv=>whnf)|(refine Br.mk (fun hc=>?_) fun hc=>?_<;>first|exact hc.elim|conv=>whnf)|(refine kB ?_))
   exact⟨_,_,_,_,[],[],[],[],rfl,hR0▸hi,hR0▸hm,hT0▸ti,hT0▸tm,⟨rfl,fun p hp=>by simp at hp⟩,⟨rfl,fun p hp=>by simp at hp⟩⟩
  ·intro hT0 c' ga gb gc n O I tl hn hO hI
   have l1:=MX hO
   have l2:=MX hI
   (conv=>whnf);repeat' (first  |(refine kA ?_;conv=>whnf)|(refine Br.mk (fun hc=>?_) fun hc=>?_<;>first|exact hc.elim|conv=>whnf)|(refine kB ?_))
   have e1:n=(cnts (Em g.edges) T).length:=by simp[cnts];omega
   refine Ae (x:=.agg [.int .i64 g.nodes.length,.int .i64 g.edges.length,.sl false [],.sl true (vs CN.av (cnts (Em g.edges) T)),.sl true (vs LV O),.sl true (vs LV I)]) ?_ ?_
   ·refine Amf (m:=999978) (N:=g.nodes.length) (E:=g.edges.length) (i:=3) (j:=4) (k:=5) (ga:=ga) (gb:=gb) (gc:=gc) (lab:=.sl false []) (lab':=.sl false []) ?_ ?_ ?_ ?_ e1 (hn.trans l1.symm) (hn.trans l2.symm)
    ·exact fun n=>rfl
    all_goals rfl
   (conv=>whnf);repeat' (first  |(refine kA ?_;conv=>whnf)|(refine Br.mk (fun hc=>?_) fun hc=>?_<;>first|exact hc.elim|conv=>whnf)|(refine kB ?_))
   exact⟨_,_,_,_,[],T,O,I,rfl,hR0▸hi,hR0▸hm,ti,tm,hO,hI⟩
 ·intro hR0 c' g3 tl
  have e0:R.length=(cnts (Ij g.nodes) R).length:=by simp[cnts]
  (conv=>whnf);repeat' (first  |(refine kA ?_;conv=>whnf)|(refine Br.mk (fun hc=>?_) fun hc=>?_<;>first|exact hc.elim|conv=>whnf)|(refine kB ?_))
  refine Aa (Agp hg hE) ?_
  rintro _ ⟨nt,T,rfl,ti,tm⟩
  have hT:T.length≤100000000:=by
   have h1:=IV (IU ti) fun x hx=>(tm x).1 hx
   simp only[typesOf,List.length_map]at h1
   omega
  (conv=>whnf);repeat' (first  |(refine kA ?_;conv=>whnf)|(refine Br.mk (fun hc=>?_) fun hc=>?_<;>first|exact hc.elim|conv=>whnf)|(refine kB ?_))
  refine Aue hN hE hT ?_ ?_
  ·intro hT0 c' tl
   (conv=>whnf);repeat' (first  |(refine kA ?_;conv=>whnf)|(refine Br.mk (fun hc=>?_) fun hc=>?_<;>first|exact hc.elim|conv=>whnf)|(refine kB ?_))
   refine Ae (x:=.agg [.int .i64 g.nodes.length,.int .i64 g.edges.length,.sl true (vs CN.av (cnts (Ij g.nodes) R)),.sl false [],.sl false [],.sl false []]) ?_ ?_
   ·refine Ame (m:=999978) (N:=g.nodes.length) (E:=g.edges.length) (a:=.own 3 g3 0 R.length) (b:=.sl false []) (c:=.sl false []) (d:=.sl false []) ?_ ?_ ?_ ?_
    ·exact fun _=>Om rfl e0
    all_goals exact fun n=>rfl
   (conv=>whnf);repeat' (first  |(refine kA ?_;conv=>whnf)|(refine Br.mk (fun hc=>?_) fun hc=>?_<;>first|exact hc.elim|conv=>whnf)|(refine kB ?_))
   exact⟨_,_,_,_,R,[],[],[],rfl,hi,hm,hT0▸ti,hT0▸tm,⟨rfl,fun p hp=>by simp at hp⟩,⟨rfl,fun p hp=>by simp at hp⟩⟩
  ·intro hT0 c' ga gb gc n O I tl hn hO hI
   have l1:=MX hO
   have l2:=MX hI
   (conv=>whnf);repeat' (first  |(refine kA ?_;conv=>whnf)|(refine Br.mk (fun hc=>?_) fun hc=>?_<;>first|exact hc.elim|conv=>whnf)|(refine kB ?_))
   have e1:n=(cnts (Em g.edges) T).length:=by simp[cnts];omega
   refine Ae (x:=.agg [.int .i64 g.nodes.length,.int .i64 g.edges.length,.sl true (vs CN.av (cnts (Ij g.nodes) R)),.sl true (vs CN.av (cnts (Em g.edges) T)),.sl true (vs LV O),.sl true (vs LV I)]) ?_ ?_
   ·refine Amf (m:=999978) (N:=g.nodes.length) (E:=g.edges.length) (i:=4) (j:=5) (k:=6) (ga:=ga) (gb:=gb) (gc:=gc) (lab:=.own 3 g3 0 R.length) (lab':=.sl true (vs CN.av (cnts (Ij g.nodes) R))) ?_ ?_ ?_ ?_ e1 (hn.trans l1.symm) (hn.trans l2.symm)
    ·exact fun _=>Om rfl e0
    all_goals rfl
   (conv=>whnf);repeat' (first  |(refine kA ?_;conv=>whnf)|(refine Br.mk (fun hc=>?_) fun hc=>?_<;>first|exact hc.elim|conv=>whnf)|(refine kB ?_))
   exact⟨_,_,_,_,R,T,O,I,rfl,hi,hm,ti,tm,hO,hI⟩
theorem AjX {g:GG} (hc:AZ g=0):∀n∈g.nodes,n.labels.length≤8:=by
 intro n hn
 obtain⟨c1,c2,c3,c4⟩:=LU hc
 obtain⟨k,hk,rfl⟩:=List.getElem_of_mem hn
 have h:=(KP hk (c3 k hk)).2.2.2
 refine Decidable.byContradiction fun h8=>?_
 rw[DV,if_pos (.inl (by omega))]at h
 omega
theorem Agi {g:GG} {dir:Int} {x:List UInt8}:(Ol g dir x).length≤g.nodes.length:=by
 unfold Ol
 rw[MW.length_eq]
 exact Agj
theorem VA {g:GG} (hN:g.nodes.length≤2000) {dir:Int} {T:List (List UInt8)} {O:List (Bool×List Int)} (h:O.map Prod.snd=T.map (Ol g dir)):∀p∈O,p.2.length<2^62:=by
 intro p hp
 have:p.2∈T.map (Ol g dir):=by rw[← h];exact List.mem_map_of_mem hp
 obtain⟨x,_,hx⟩:=List.mem_map.1 this
 have:=@Agi g dir x
 rw[← hx];omega
structure GC where
 op:Int
 id:Int
 fr:Int
 to:Int
 name:List UInt8
 v:GV
def GC.av (c:GC):AV:=.agg [.int .i64 c.op,.int .i64 c.id,.int .i64 c.fr,.int .i64 c.to,.str c.name,.int .i64 c.v.k,.int .i64 c.v.n,.int .i64 c.v.d,.str c.v.s,.sl c.v.nn c.v.l]
def GC.ok (c:GC):Prop:=I64 c.op∧I64 c.id∧I64 c.fr∧I64 c.to∧Ln c.name∧c.v.ok
def AmZ (ns:List Int) (N:List GN):List GN:=N.filter fun n=>decide (n.id∉ns)
def Am0 (es:List Int) (E:List GE):List GE:=E.filter fun e=>decide (e.id∉es)
theorem Xe:∀n:GN,n.av.cells.length=3:=fun _=>rfl
theorem cellsE:∀n:GE,n.av.cells.length=5:=fun _=>rfl
theorem Uf:∀n:GP,n.av.cells.length=6:=fun _=>rfl
def Ug (ns es:List Int) (g h:GG):Prop:=AmZ ns h.nodes=AmZ ns g.nodes∧Am0 es h.edges=Am0 es g.edges
theorem Ug.refl (ns es:List Int) (g:GG):Ug ns es g g:=⟨rfl,rfl⟩
theorem Ug.trans {ns es:List Int} {g h k:GG} (h1:Ug ns es g h) (h2:Ug ns es h k):Ug ns es g k:=⟨h2.1.trans h1.1,h2.2.trans h1.2⟩
end AI
end Go.Proofs.YthnehejdkajjhaaGreatDoor
