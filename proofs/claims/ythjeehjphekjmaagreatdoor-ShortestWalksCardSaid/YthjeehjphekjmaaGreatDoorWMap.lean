/- Sorting in place (CmpFunc[graphdb/api.Value]): the whole. Sorting (slices.SortFunc[[]graphdb/api.Value,graphdb/api.Value]), leaving out what repeats (slices.CompactFunc[[]graphdb/api.Value,graphdb/api.Value]). Leaving out what repeats (slices.CompactFunc[[]graphdb/api.Value,graphdb/api.Value]). All shortest walks, the program's and the reference's: the sorted walks. All shortest walks of the reference. -/
import Derived.Test.YthjeehjphekjmaaGreatDoorWMao
import Derived.Test.YthjeehjphekjmaaGreatDoorWPvC
import Derived.Test.YthjeehjphekjmaaGreatDoorWMaf
import Derived.Test.YthjeehjphekjmaaGreatDoorWMaj
import Derived.Test.YthjeehjphekjmaaGreatDoorWMak
set_option linter.unusedVariables false
set_option maxRecDepth 4000
namespace Go.Proofs.YthjeehjphekjmaaGreatDoor
namespace AI
section
open Go.Sort
abbrev pvTop (Ap:Obj) (g len:Nat) (nn cl:Bool) (a b:Nat):Prop:=∀(c:Nat) (limit:Int) (d:Array Wk),d.size=len→b≤len→a≤b→0≤limit→limit<2^62→Below AfW a b d→
 AQ (Ac tab) 76 [.own 1 g 0 len,.int .i64 a,.int .i64 b,.int .i64 limit,.fn 46 []] ⟨[Ap,.arr g 5 nn cl (vs Wk.av d.toList)],c⟩ fun out s'=>∃c' D,out=.ok (.CO [])∧s'=⟨[Ap,.arr g 5 nn cl (vs Wk.av D.toList)],c'⟩∧PermIn a b d D∧SortedIn AfW a b D
def pvsR1:Am→Am
 | .seq _ b=>b
 |c=>c
def pvsL1:Am→Am
 | .seq a _=>a
 |c=>c
def pvbl1:Am→Am
 | .block _ a=>a
 |c=>c
noncomputable def pvt1:Am:=pvsR1 (pvsR1 (pvsR1 (pvbl1 l76_0_b)))
noncomputable def pvt2:Am:=pvsR1 (pvsR1 (pvsR1 pvt1))
noncomputable def pvt3:Am:=pvsR1 pvt2
noncomputable def pvt4:Am:=pvsR1 pvt3
abbrev pvInv (Ap:Obj) (g len:Nat) (nn cl:Bool) (a b:Nat) (d:Array Wk) (m:Nat) (env:Env) (s:Ag):Prop:=
 ∃(a' b' c:Nat) (limit:Int) (wb wp:Bool) (D:Array Wk),m=b'-a'∧a'≤b'∧b'≤len∧b'-a'≤b-a∧0≤limit∧limit<2^62∧D.size=len∧Below AfW a' b' D∧(∀ R,PermIn a' b' D R→SortedIn AfW a' b' R→PermIn a b d R∧SortedIn AfW a b R)∧
  env=[(0,.own 1 g 0 len),(1,.int .i64 a'),(2,.int .i64 b'),(3,.int .i64 limit),(4,.fn 46 []),(10,.bool wb),(11,.bool wp)]∧s=⟨[Ap,.arr g 5 nn cl (vs Wk.av D.toList)],c⟩
section
variable {Ap:Obj} {g len:Nat} {nn cl:Bool} {a b:Nat} {d:Array Wk}
def pvEnd (Ap:Obj) (g len:Nat) (nn cl:Bool) (a b:Nat) (d:Array Wk) (m:Nat):Ak→Env→Ag→Prop:=
 Va 1 (Aau l76_0_h (again (pvInv Ap g len nn cl a b d) m) (Va 0 (Nq a76 fun out s'=>∃c' D,out=.ok (.CO [])∧s'=⟨[Ap,.arr g 5 nn cl (vs Wk.av D.toList)],c'⟩∧PermIn a b d D∧SortedIn AfW a b D)))
set_option maxHeartbeats 2000000 in
theorem pvtop4 {tl:Env} (hs:len<2^61) (ih:∀x y,y-x<b-a→pvTop Ap g len nn cl x y) {a' b' c p:Nat} {limit:Int} {wb wp:Bool} {D:Array Wk} (hab:a'+12<b') (hb:b'≤len) (hle:b'-a'≤b-a) (hlim:0≤limit) (Ec:limit<2^62) (hD:D.size=len) (hB:Below AfW a' b' D)
 (hR:∀R,PermIn a' b' D R→SortedIn AfW a' b' R→PermIn a b d R∧SortedIn AfW a b R) (hp1:a'≤p) (hp2:p<b'):
 vC (Ac tab) pvt4 ([(0,.own 1 g 0 len),(1,.int .i64 a'),(2,.int .i64 b'),(3,.int .i64 limit),(4,.fn 46 []),(10,.bool wb),(11,.bool wp),(12,.int .i64 (b'-a':Nat)),(13,.int .i64 p)]++tl) ⟨[Ap,.arr g 5 nn cl (vs Wk.av D.toList)],c⟩ (pvEnd Ap g len nn cl a b d (b'-a')):=by
 unfold pvEnd
 (conv=>whnf);repeat' (first  |(refine kA ?_;conv=>whnf)|(refine Br.mk (fun hc=>?_) fun hc=>?_<;>first|exact hc.elim|conv=>whnf)|(refine kB ?_))
 refine(pvpar hD hb hp1 hp2 hs).mono ?_
 rintro _ _ ⟨c1,rfl,rfl⟩
 generalize hx:partition AfW D a' b' p=R
 obtain⟨mid,ap,E⟩:=R
 obtain⟨m1,m2,hE,hBl,hBr,fl,fr⟩:=round_part ltWk_swo (partition_holds AfW) hp1 hp2 (by omega) hB hx
 dsimp only
 conv=>whnf
 apply Ai rfl
 (conv=>whnf);repeat' (first|(refine Jr (b'-a') 8 (by omega) (by omega) ?_;conv=>whnf)|(refine kA ?_;conv=>whnf)|(refine Br.mk (fun hc=>?_) fun hc=>?_<;>first|exact hc.elim|conv=>whnf)|(refine kB ?_))
 all_goals first
  |(refine (ih a' mid (by omega) _ limit E (by omega) (by omega) m1 hlim Ec hBl).mono ?_
    rintro _ _ ⟨c2,L,rfl,rfl,q1,q2⟩
    obtain⟨hBL,fin⟩:=fl L q1 q2
    conv=>whnf
    apply Ai rfl
    (conv=>whnf);repeat' (first  |(refine kA ?_;conv=>whnf)|(refine Br.mk (fun hc=>?_) fun hc=>?_<;>first|exact hc.elim|conv=>whnf)|(refine kB ?_))
    exact again.mk ⟨_,by omega,mid+1,b',_,limit,_,_,L,rfl,by omega,hb,by omega,hlim,Ec,by rw[q1.1,hE,hD],hBL,fun R h1 h2=>hR R (fin R h1 h2).1 (fin R h1 h2).2,rfl,rfl⟩)
  |(refine (ih (mid+1) b' (by omega) _ limit E (by omega) hb (by omega) hlim Ec hBr).mono ?_
    rintro _ _ ⟨c2,L,rfl,rfl,q1,q2⟩
    obtain⟨hBL,fin⟩:=fr L q1 q2
    conv=>whnf
    apply Ai rfl
    (conv=>whnf);repeat' (first  |(refine kA ?_;conv=>whnf)|(refine Br.mk (fun hc=>?_) fun hc=>?_<;>first|exact hc.elim|conv=>whnf)|(refine kB ?_))
    exact again.mk ⟨_,by omega,a',mid,_,limit,_,_,L,rfl,by omega,by omega,by omega,hlim,Ec,by rw[q1.1,hE,hD],hBL,fun R h1 h2=>hR R (fin R h1 h2).1 (fin R h1 h2).2,rfl,rfl⟩)
theorem pvtop3 {tl:Env} (hs:len<2^61) {a' b' c p:Nat} {limit:Int} {wb wp:Bool} {D:Array Wk} {K:Env→Ag→Prop} {Q:Ak→Env→Ag→Prop} (hab:a'+12<b') (hb:b'≤len) (hD:D.size=len) (hB:Below AfW a' b' D) (hp1:a'≤p) (hp2:p<b')
 (hK:∀tl,K ([(0,.own 1 g 0 len),(1,.int .i64 a'),(2,.int .i64 b'),(3,.int .i64 limit),(4,.fn 46 []),(10,.bool wb),(11,.bool wp),(12,.int .i64 (b'-a':Nat)),(13,.int .i64 p)]++tl) ⟨[Ap,.arr g 5 nn cl (vs Wk.av D.toList)],c⟩)
 (hQ:∀c' mid (E:Array Wk),a'<mid→mid≤b'→E.size=len→Below AfW mid b' E→(∀ R,PermIn mid b' E R→SortedIn AfW mid b' R→PermIn a' b' D R∧SortedIn AfW a' b' R)→
   Q (.exit 1) [(0,.own 1 g 0 len),(1,.int .i64 mid),(2,.int .i64 b'),(3,.int .i64 limit),(4,.fn 46 []),(10,.bool wb),(11,.bool wp)] ⟨[Ap,.arr g 5 nn cl (vs Wk.av E.toList)],c'⟩):
 vC (Ac tab) (pvsL1 pvt3) ([(0,.own 1 g 0 len),(1,.int .i64 a'),(2,.int .i64 b'),(3,.int .i64 limit),(4,.fn 46 []),(10,.bool wb),(11,.bool wp),(12,.int .i64 (b'-a':Nat)),(13,.int .i64 p)]++tl) ⟨[Ap,.arr g 5 nn cl (vs Wk.av D.toList)],c⟩ (Ju K Q):=by
 (conv=>whnf);repeat' (first|exact hK _|((with_reducible show AY _ _ _);refine CG (a'-1) ?_;conv=>whnf)|((with_reducible show AY _ _ _);refine CG (p) ?_;conv=>whnf)|(refine Aa orderWk ?_;rintro _ rfl;conv=>whnf)|(refine pcaseWk (fun hc=>?_) (fun hc=>?_)<;>conv=>whnf)|(refine kA ?_;conv=>whnf)|(refine Br.mk (fun hc=>?_) fun hc=>?_<;>first|exact hc.elim|conv=>whnf)|(refine kB ?_))
 refine(pvqeq hD hb hp1 hp2 hs).mono ?_
 rintro _ _ ⟨c1,rfl,rfl⟩
 generalize hx:partitionEqual AfW D a' b' p=R
 obtain⟨mid,E⟩:=R
 obtain⟨m1,m2,hE,hBr,fin⟩:=round_eq ltWk_swo (partitionEqual_holds AfW) (by omega) hp1 hp2 (by omega) hB hc hx
 dsimp only
 conv=>whnf
 apply Ai rfl
 (conv=>whnf);repeat' (first  |(refine kA ?_;conv=>whnf)|(refine Br.mk (fun hc=>?_) fun hc=>?_<;>first|exact hc.elim|conv=>whnf)|(refine kB ?_))
 exact hQ _ mid E m1 m2 (by omega) hBr fin
theorem pvtop2 {tl:Env} (hs:len<2^61) {a' b' c p:Nat} {limit h:Int} {wb wp:Bool} {D:Array Wk} {K:Env→Ag→Prop} {Q:Ak→Env→Ag→Prop} (hab:a'+12<b') (hb:b'≤len) (hD:D.size=len) (hB:Below AfW a' b' D)
 (hK:∀tl c (E:Array Wk),PermIn a' b' D E→K ([(0,.own 1 g 0 len),(1,.int .i64 a'),(2,.int .i64 b'),(3,.int .i64 limit),(4,.fn 46 []),(10,.bool wb),(11,.bool wp),(12,.int .i64 (b'-a':Nat)),(13,.int .i64 p)]++tl) ⟨[Ap,.arr g 5 nn cl (vs Wk.av E.toList)],c⟩)
 (hQ:∀c (E:Array Wk) env,PermIn a' b' D E→SortedIn AfW a' b' E→Q .ret env ⟨[Ap,.arr g 5 nn cl (vs Wk.av E.toList)],c⟩):
 vC (Ac tab) (pvsL1 pvt2) ([(0,.own 1 g 0 len),(1,.int .i64 a'),(2,.int .i64 b'),(3,.int .i64 limit),(4,.fn 46 []),(10,.bool wb),(11,.bool wp),(12,.int .i64 (b'-a':Nat)),(13,.int .i64 p),(14,.int .i64 h)]++tl) ⟨[Ap,.arr g 5 nn cl (vs Wk.av D.toList)],c⟩ (Ju K Q):=by
 (conv=>whnf);repeat' (first|exact hK _ _ _ (permIn_refl _ _ _)|(refine kA ?_;conv=>whnf)|(refine Br.mk (fun hc=>?_) fun hc=>?_<;>first|exact hc.elim|conv=>whnf)|(refine kB ?_))
 refine(pvpart hD hb (by omega) hs).mono ?_
 rintro _ _ ⟨c1,rfl,rfl⟩
 have hp:=partialInsertionSort_holds ltWk_swo D a' b' (by omega) (by omega) hB
 generalize partialInsertionSort AfW D a' b'=R at hp
 obtain⟨E,r⟩:=R
 obtain⟨q1,q2⟩:=hp
 dsimp only at q1 q2 ⊢
 conv=>whnf
 apply Ai rfl
 cases r with
 |true=>
  (conv=>whnf);repeat' (first  |(refine kA ?_;conv=>whnf)|(refine Br.mk (fun hc=>?_) fun hc=>?_<;>first|exact hc.elim|conv=>whnf)|(refine kB ?_))
  exact hQ _ E _ q1 (q2 rfl)
 |false=>
  (conv=>whnf);repeat' (first|exact hK _ _ _ q1|(refine kA ?_;conv=>whnf)|(refine Br.mk (fun hc=>?_) fun hc=>?_<;>first|exact hc.elim|conv=>whnf)|(refine kB ?_))
theorem pvtop5 {tl:Env} (hs:len<2^61) {a' b' c p:Nat} {limit h:Int} {wb wp:Bool} {D:Array Wk} {K:Env→Ag→Prop} {Q:Ak→Env→Ag→Prop} (hab:a'+12<b') (hb:b'≤len) (hD:D.size=len) (hp1:a'≤p) (hp2:p<b')
 (hK:∀tl c (p:Nat) h (E:Array Wk),PermIn a' b' D E→a'≤p→p<b'→K ([(0,.own 1 g 0 len),(1,.int .i64 a'),(2,.int .i64 b'),(3,.int .i64 limit),(4,.fn 46 []),(10,.bool wb),(11,.bool wp),(12,.int .i64 (b'-a':Nat)),(13,.int .i64 p),(14,.int .i64 h)]++tl) ⟨[Ap,.arr g 5 nn cl (vs Wk.av E.toList)],c⟩):
 vC (Ac tab) (pvsL1 (pvsR1 (pvsR1 pvt1))) ([(0,.own 1 g 0 len),(1,.int .i64 a'),(2,.int .i64 b'),(3,.int .i64 limit),(4,.fn 46 []),(10,.bool wb),(11,.bool wp),(12,.int .i64 (b'-a':Nat)),(13,.int .i64 p),(14,.int .i64 h)]++tl) ⟨[Ap,.arr g 5 nn cl (vs Wk.av D.toList)],c⟩ (Ju K Q):=by
 (conv=>whnf);repeat' (first|exact hK _ _ _ _ _ (permIn_refl _ _ _) hp1 hp2|(refine kA ?_;conv=>whnf)|(refine Br.mk (fun hc=>?_) fun hc=>?_<;>first|exact hc.elim|conv=>whnf)|(refine kB ?_))
 refine(pvrev hD hb (by omega) hs).mono ?_
 rintro _ _ ⟨c1,E,rfl,rfl,q1⟩
 conv=>whnf
 apply Ai rfl
 have e:(b':Int)-1-((p:Int)-a')=((b'-1-(p-a'):Nat):Int):=by omega
 have hK':=fun tl=>hK tl c1 (b'-1-(p-a')) 1 E q1 (by omega) (by omega)
 rw[← e]at hK'
 (conv=>whnf);repeat' (first|exact hK' _|(refine kA ?_;conv=>whnf)|(refine Br.mk (fun hc=>?_) fun hc=>?_<;>first|exact hc.elim|conv=>whnf)|(refine kB ?_))
theorem pvtop6 {tl:Env} (hs:len<2^61) {a' b' c:Nat} {limit:Int} {wb wp:Bool} {D:Array Wk} {K:Env→Ag→Prop} {Q:Ak→Env→Ag→Prop} (hab:a'+12<b') (hb:b'≤len) (hD:D.size=len)
 (hK:∀tl c (p:Nat) h,a'≤p→p<b'→K ([(0,.own 1 g 0 len),(1,.int .i64 a'),(2,.int .i64 b'),(3,.int .i64 limit),(4,.fn 46 []),(10,.bool wb),(11,.bool wp),(12,.int .i64 (b'-a':Nat)),(13,.int .i64 p),(14,.int .i64 h)]++tl) ⟨[Ap,.arr g 5 nn cl (vs Wk.av D.toList)],c⟩):
 vC (Ac tab) (pvsL1 (pvsR1 pvt1)) ([(0,.own 1 g 0 len),(1,.int .i64 a'),(2,.int .i64 b'),(3,.int .i64 limit),(4,.fn 46 []),(10,.bool wb),(11,.bool wp),(12,.int .i64 (b'-a':Nat))]++tl) ⟨[Ap,.arr g 5 nn cl (vs Wk.av D.toList)],c⟩ (Ju K Q):=by
 (conv=>whnf);repeat' (first  |(refine kA ?_;conv=>whnf)|(refine Br.mk (fun hc=>?_) fun hc=>?_<;>first|exact hc.elim|conv=>whnf)|(refine kB ?_))
 refine(pvpiv hD hb hab hs).mono ?_
 rintro _ _ ⟨c1,p,h,ob,rfl,rfl,q1,q2⟩
 conv=>whnf
 apply Ai rfl
 (conv=>whnf);repeat' (first|exact hK _ _ _ _ q1 q2|(refine kA ?_;conv=>whnf)|(refine Br.mk (fun hc=>?_) fun hc=>?_<;>first|exact hc.elim|conv=>whnf)|(refine kB ?_))
theorem pvtop7 {tl:Env} (hs:len<2^61) {a' b' c:Nat} {limit:Int} {wb wp:Bool} {D:Array Wk} {K:Env→Ag→Prop} {Q:Ak→Env→Ag→Prop} (hab:a'+12<b') (hb:b'≤len) (hD:D.size=len) (hlim:0<limit)
 (hK:∀tl c wb limit (E:Array Wk),0≤limit→limit<2^62→PermIn a' b' D E→K ([(0,.own 1 g 0 len),(1,.int .i64 a'),(2,.int .i64 b'),(3,.int .i64 limit),(4,.fn 46 []),(10,.bool wb),(11,.bool wp),(12,.int .i64 (b'-a':Nat))]++tl) ⟨[Ap,.arr g 5 nn cl (vs Wk.av E.toList)],c⟩) (Ec:limit<2^62):
 vC (Ac tab) (pvsL1 pvt1) ([(0,.own 1 g 0 len),(1,.int .i64 a'),(2,.int .i64 b'),(3,.int .i64 limit),(4,.fn 46 []),(10,.bool wb),(11,.bool wp),(12,.int .i64 (b'-a':Nat))]++tl) ⟨[Ap,.arr g 5 nn cl (vs Wk.av D.toList)],c⟩ (Ju K Q):=by
 cases wb with
 |true=>(conv=>whnf);repeat' (first|exact hK _ _ _ _ _ (by omega) (by omega) (permIn_refl _ _ _)|(refine kA ?_;conv=>whnf)|(refine Br.mk (fun hc=>?_) fun hc=>?_<;>first|exact hc.elim|conv=>whnf)|(refine kB ?_))
 |false=>
  (conv=>whnf);repeat' (first  |(refine kA ?_;conv=>whnf)|(refine Br.mk (fun hc=>?_) fun hc=>?_<;>first|exact hc.elim|conv=>whnf)|(refine kB ?_))
  refine(pvbrk hD hb hab hs).mono ?_
  rintro _ _ ⟨c1,E,ob,rfl,rfl,q1⟩
  conv=>whnf
  apply Ai rfl
  (conv=>whnf);repeat' (first|exact hK _ _ _ _ _ (by omega) (by omega) q1|(refine kA ?_;conv=>whnf)|(refine Br.mk (fun hc=>?_) fun hc=>?_<;>first|exact hc.elim|conv=>whnf)|(refine kB ?_))
theorem pvtop8 {a' b' c:Nat} {limit:Int} {wb wp:Bool} {D:Array Wk} {K:Env→Ag→Prop} {Q:Ak→Env→Ag→Prop} (hs:len<2^61) (hab:a'≤b') (hb:b'≤len)
 (hK:∀tl,K ([(0,.own 1 g 0 len),(1,.int .i64 a'),(2,.int .i64 b'),(3,.int .i64 limit),(4,.fn 46 []),(10,.bool wb),(11,.bool wp),(12,.int .i64 (b'-a':Nat))]++tl) ⟨[Ap,.arr g 5 nn cl (vs Wk.av D.toList)],c⟩):
 vC (Ac tab) (pvsL1 (pvbl1 l76_0_b)) [(0,.own 1 g 0 len),(1,.int .i64 a'),(2,.int .i64 b'),(3,.int .i64 limit),(4,.fn 46 []),(10,.bool wb),(11,.bool wp)] ⟨[Ap,.arr g 5 nn cl (vs Wk.av D.toList)],c⟩ (Ju K Q):=by
 rw[show ((b'-a':Nat):Int)=(b':Int)-a' by omega]at hK
 (conv=>whnf);repeat' (first|exact hK []|(refine kA ?_;conv=>whnf)|(refine Br.mk (fun hc=>?_) fun hc=>?_<;>first|exact hc.elim|conv=>whnf)|(refine kB ?_))
theorem pvtop9 {tl:Env} (hs:len<2^61) {a' b' c:Nat} {limit:Int} {wb wp:Bool} {D:Array Wk} {K:Env→Ag→Prop} {Q:Ak→Env→Ag→Prop} (hab:a'≤b') (hb:b'≤len) (hD:D.size=len)
 (hK:∀tl c,a'+12<b'→K ([(0,.own 1 g 0 len),(1,.int .i64 a'),(2,.int .i64 b'),(3,.int .i64 limit),(4,.fn 46 []),(10,.bool wb),(11,.bool wp),(12,.int .i64 (b'-a':Nat))]++tl) ⟨[Ap,.arr g 5 nn cl (vs Wk.av D.toList)],c⟩)
 (hQ:∀c (E:Array Wk) env,PermIn a' b' D E→SortedIn AfW a' b' E→Q .ret env ⟨[Ap,.arr g 5 nn cl (vs Wk.av E.toList)],c⟩):
 vC (Ac tab) (pvsL1 (pvsR1 (pvbl1 l76_0_b))) ([(0,.own 1 g 0 len),(1,.int .i64 a'),(2,.int .i64 b'),(3,.int .i64 limit),(4,.fn 46 []),(10,.bool wb),(11,.bool wp),(12,.int .i64 (b'-a':Nat))]++tl) ⟨[Ap,.arr g 5 nn cl (vs Wk.av D.toList)],c⟩ (Ju K Q):=by
 (conv=>whnf);repeat' (first|exact hK _ _ (by omega)|(refine kA ?_;conv=>whnf)|(refine Br.mk (fun hc=>?_) fun hc=>?_<;>first|exact hc.elim|conv=>whnf)|(refine kB ?_))
 refine(pvins hD hb hs (by omega)).mono ?_
 rintro _ _ ⟨c1,rfl,rfl⟩
 conv=>whnf
 apply Ai rfl
 (conv=>whnf);repeat' (first  |(refine kA ?_;conv=>whnf)|(refine Br.mk (fun hc=>?_) fun hc=>?_<;>first|exact hc.elim|conv=>whnf)|(refine kB ?_))
 obtain⟨q1,q2⟩:=insertionSort_holds ltWk_swo D a' b' hab (by omega)
 exact hQ _ _ _ q1 q2
theorem pvtop10 {tl:Env} (hs:len<2^61) {a' b' c:Nat} {limit:Int} {wb wp:Bool} {D:Array Wk} {K:Env→Ag→Prop} {Q:Ak→Env→Ag→Prop} (hab:a'+12<b') (hb:b'≤len) (hD:D.size=len) (hlim:0≤limit)
 (hK:∀tl c,0<limit→K ([(0,.own 1 g 0 len),(1,.int .i64 a'),(2,.int .i64 b'),(3,.int .i64 limit),(4,.fn 46 []),(10,.bool wb),(11,.bool wp),(12,.int .i64 (b'-a':Nat))]++tl) ⟨[Ap,.arr g 5 nn cl (vs Wk.av D.toList)],c⟩)
 (hQ:∀c (E:Array Wk) env,PermIn a' b' D E→SortedIn AfW a' b' E→Q .ret env ⟨[Ap,.arr g 5 nn cl (vs Wk.av E.toList)],c⟩):
 vC (Ac tab) (pvsL1 (pvsR1 (pvsR1 (pvbl1 l76_0_b)))) ([(0,.own 1 g 0 len),(1,.int .i64 a'),(2,.int .i64 b'),(3,.int .i64 limit),(4,.fn 46 []),(10,.bool wb),(11,.bool wp),(12,.int .i64 (b'-a':Nat))]++tl) ⟨[Ap,.arr g 5 nn cl (vs Wk.av D.toList)],c⟩ (Ju K Q):=by
 (conv=>whnf);repeat' (first|exact hK _ _ (by omega)|(refine kA ?_;conv=>whnf)|(refine Br.mk (fun hc=>?_) fun hc=>?_<;>first|exact hc.elim|conv=>whnf)|(refine kB ?_))
 refine(pvheap hD hb hs (by omega)).mono ?_
 rintro _ _ ⟨c1,rfl,rfl⟩
 conv=>whnf
 apply Ai rfl
 (conv=>whnf);repeat' (first  |(refine kA ?_;conv=>whnf)|(refine Br.mk (fun hc=>?_) fun hc=>?_<;>first|exact hc.elim|conv=>whnf)|(refine kB ?_))
 obtain⟨q1,q2⟩:=heapSort_holds ltWk_swo D a' b' (by omega) (by omega)
 exact hQ _ _ _ q1 q2
theorem pvround (hs:len<2^61) (ih:∀x y,y-x<b-a→pvTop Ap g len nn cl x y) {a' b' c:Nat} {limit:Int} {wb wp:Bool} {D:Array Wk} (hab:a'≤b') (hb:b'≤len) (hle:b'-a'≤b-a) (hlim:0≤limit) (Ec:limit<2^62) (hD:D.size=len) (hB:Below AfW a' b' D)
 (hR:∀R,PermIn a' b' D R→SortedIn AfW a' b' R→PermIn a b d R∧SortedIn AfW a b R):
 vC (Ac tab) (pvbl1 l76_0_b) [(0,.own 1 g 0 len),(1,.int .i64 a'),(2,.int .i64 b'),(3,.int .i64 limit),(4,.fn 46 []),(10,.bool wb),(11,.bool wp)] ⟨[Ap,.arr g 5 nn cl (vs Wk.av D.toList)],c⟩ (pvEnd Ap g len nn cl a b d (b'-a')):=by
 have hret:∀c (E:Array Wk) env,PermIn a b d E→SortedIn AfW a b E→pvEnd Ap g len nn cl a b d (b'-a') .ret env ⟨[Ap,.arr g 5 nn cl (vs Wk.av E.toList)],c⟩:=by
  intro c E env h1 h2
  unfold pvEnd
  conv=>whnf
  apply Ai rfl
  exact⟨_,E,rfl,rfl,h1,h2⟩
 refine EG (a:=pvsL1 (pvbl1 l76_0_b)) (b:=pvsR1 (pvbl1 l76_0_b)) (pvtop8 hs hab hb fun tl1=>?_)
 refine EG (a:=pvsL1 (pvsR1 (pvbl1 l76_0_b))) (b:=pvsR1 (pvsR1 (pvbl1 l76_0_b))) (pvtop9 hs hab hb hD (fun tl2 c2 h12=>?_) fun c E env h1 h2=>hret c E env (hR E h1 h2).1 (hR E h1 h2).2)
 refine EG (a:=pvsL1 (pvsR1 (pvsR1 (pvbl1 l76_0_b)))) (b:=pvt1) (pvtop10 hs h12 hb hD hlim (fun tl3 c3 hl0=>?_) fun c E env h1 h2=>hret c E env (hR E h1 h2).1 (hR E h1 h2).2)
 refine EG (a:=pvsL1 pvt1) (b:=pvsR1 pvt1) (pvtop7 hs h12 hb hD hl0 (fun tl4 c4 wb4 Aci E4 hl4 Yi p4=>?_) Ec)
 have hD4:E4.size=len:=by rw[p4.1,hD]
 refine EG (a:=pvsL1 (pvsR1 pvt1)) (b:=pvsR1 (pvsR1 pvt1)) (pvtop6 hs h12 hb hD4 fun tl5 c5 p h hp1 hp2=>?_)
 refine EG (a:=pvsL1 (pvsR1 (pvsR1 pvt1))) (b:=pvt2) (pvtop5 hs h12 hb hD4 hp1 hp2 fun tl6 c6 p6 h6 E6 q6 Yj Yk=>?_)
 have Yl:=permIn_trans _ _ _ _ _ p4 q6
 have hD6:E6.size=len:=by rw[Yl.1,hD]
 have hB6:=hB.perm (by omega) Yl
 refine EG (a:=pvsL1 pvt2) (b:=pvt3) (pvtop2 hs h12 hb hD6 hB6 (fun tl7 c7 E7 q7=>?_) fun c E env h1 h2=>hret c E env (hR E (permIn_trans _ _ _ _ _ Yl h1) h2).1 (hR E (permIn_trans _ _ _ _ _ Yl h1) h2).2)
 have p7:=permIn_trans _ _ _ _ _ Yl q7
 have hD7:E7.size=len:=by rw[p7.1,hD]
 have hB7:=hB.perm (by omega) p7
 have hR7:∀R,PermIn a' b' E7 R→SortedIn AfW a' b' R→PermIn a b d R∧SortedIn AfW a b R:=fun R h1 h2=>hR R (permIn_trans _ _ _ _ _ p7 h1) h2
 refine EG (a:=pvsL1 pvt3) (b:=pvt4) (pvtop3 hs h12 hb hD7 hB7 Yj Yk (fun tl8=>pvtop4 hs ih h12 hb hle hl4 Yi hD7 hB7 hR7 Yj Yk) fun c' mid E m1 m2 hE hBE fin=>?_)
 unfold pvEnd
 conv=>whnf
 exact again.mk ⟨_,by omega,mid,b',_,Aci,_,_,E,rfl,by omega,hb,by omega,hl4,Yi,hE,hBE,fun R h1 h2=>hR7 R (fin R h1 h2).1 (fin R h1 h2).2,rfl,rfl⟩
end
theorem pvpdq {Ap:Obj} {g len:Nat} {nn cl:Bool} (hs:len<2^61):∀n a b,b-a≤n→pvTop Ap g len nn cl a b:=by
 intro n
 induction n using Nat.strongRecOn with
 |ind n IH=>
  intro a b hn
  have ih:∀x y,y-x<b-a→pvTop Ap g len nn cl x y:=fun x y h=>IH (y-x) (by omega) x y (Nat.le_refl _)
  clear IH hn
  intro c limit d hd hb hab hlim Ec hB
  refine Ar rfl rfl ?_
  (conv=>whnf);repeat' (first  |(refine kA ?_;conv=>whnf)|(refine Br.mk (fun hc=>?_) fun hc=>?_<;>first|exact hc.elim|conv=>whnf)|(refine kB ?_))
  refine Ae (pvInv Ap g len nn cl a b d) ?_ _ _ _ ⟨a,b,_,limit,true,true,d,rfl,hab,hb,Nat.le_refl _,hlim,Ec,hd,hB,fun R h1 h2=>⟨h1,h2⟩,rfl,rfl⟩
  rintro _ _ _ ⟨a',b',c,limit,wb,wp,D,rfl,hab',hb',hle,hlim,Ec,hD,hB',hR,rfl,rfl⟩
  refine⟨rfl,?_⟩
  exact pvround hs ih hab' hb' hle hlim Ec hD hB' hR
theorem pvsortQ {Ap:Obj} {g len c:Nat} {nn cl:Bool} {L:List Wk} (hl:L.length=len) (hs:len<2^61) {limit:Int} (h0:0≤limit) (h1:limit<2^62):
 AQ (Ac tab) 76 [.own 1 g 0 len,.int .i64 0,.int .i64 len,.int .i64 limit,.fn 46 []] ⟨[Ap,.arr g 5 nn cl (vs Wk.av L)],c⟩ fun out s'=>∃c' W,out=.ok (.CO [])∧s'=⟨[Ap,.arr g 5 nn cl (vs Wk.av W)],c'⟩∧W.Perm L∧W.Pairwise (fun x y=>AfW y x=false):=by
 have:=pvpdq (Ap:=Ap) (g:=g) (nn:=nn) (cl:=cl) hs len 0 len (by omega) c limit L.toArray (by simpa using hl) (Nat.le_refl _) (by omega) h0 h1 (Or.inl rfl)
 refine this.mono ?_
 rintro _ _ ⟨c',D,rfl,rfl,p1,p2⟩
 refine⟨c',D.toList,rfl,rfl,WG hl p1,QK (by rw[p1.1];simpa using hl) p2⟩
end
section
open Go.Sort
theorem pvsort {Ap:Obj} {g len c:Nat} {nn cl:Bool} {L:List Wk} (hl:L.length=len) (hs:len<2^61):
 AQ (Ac tab) 45 [.own 1 g 0 len,.fn 46 []] ⟨[Ap,.arr g 5 nn cl (vs Wk.av L)],c⟩ fun out s'=>∃c' W,out=.ok (.CO [])∧s'=⟨[Ap,.arr g 5 nn cl (vs Wk.av W)],c'⟩∧W.Perm L∧W.Pairwise (fun x y=>AfW y x=false):=by
 have hb:bitsLen len≤62:=(bitsLen_le_iff len 62).2 (by omega)
 refine Ar rfl rfl ?_
 (conv=>whnf);repeat' (first|(refine wrapN len rfl rfl (by show _<2^64;omega) ?_;conv=>whnf)|(refine Aa (OV (n:=len) (by omega)) ?_;rintro _ rfl;conv=>whnf)|(refine kA ?_;conv=>whnf)|(refine Br.mk (fun hc=>?_) fun hc=>?_<;>first|exact hc.elim|conv=>whnf)|(refine kB ?_))
 refine(pvsortQ hl hs (by omega) (by omega)).mono ?_
 rintro _ _ ⟨c',W,rfl,rfl,h1,h2⟩
 conv=>whnf
 apply Ai rfl
 (conv=>whnf);repeat' (first  |(refine kA ?_;conv=>whnf)|(refine Br.mk (fun hc=>?_) fun hc=>?_<;>first|exact hc.elim|conv=>whnf)|(refine kB ?_))
 exact⟨_,W,rfl,rfl,h1,h2⟩
end
section
open Go.Sort
theorem pvcpt {Ap:Obj} {g len c:Nat} {nn cl:Bool} {d:Array Wk} (hl:d.size=len) (hs:len<2^61):
 AQ (Ac tab) 47 [.own 1 g 0 len,.fn 48 []] ⟨[Ap,.arr g 5 nn cl (vs Wk.av d.toList)],c⟩ fun out s'=>∃c' T,out=.ok (.own 1 g 0 (N7 d len).length)∧s'=⟨[Ap,.arr g 5 nn cl (vs Wk.av (N7 d len++T))],c'⟩:=by
 have hend:(∀ j,0<j→j<len→¬d[j]! =d[j-1]!)→N7 d len=d.toList:=fun h=>by
  rw[SS len (by omega) h,List.take_of_length_le (by simp[hl])]
 refine Ar rfl rfl ?_
 (conv=>whnf);repeat' (first  |(refine kA ?_;conv=>whnf)|(refine Br.mk (fun hc=>?_) fun hc=>?_<;>first|exact hc.elim|conv=>whnf)|(refine kB ?_))
 ·have e:=hend (fun j h0 hj=>absurd h0 (by omega))
  rw[e,Array.length_toList,hl]
  exact⟨_,[],rfl,by rw[List.append_nil]⟩
 refine Ae (fun m env s=>∃(k c:Nat),m=len-k∧0<k∧(∀ j,0<j→j<k→¬d[j]! =d[j-1]!)∧env=[(0,.own 1 g 0 len),(1,.fn 48 []),(5,.int .i64 k)]∧s=⟨[Ap,.arr g 5 nn cl (vs Wk.av d.toList)],c⟩) ?_ _ _ _ ⟨1,c,rfl,by omega,fun j h0 h1=>absurd h0 (by omega),rfl,rfl⟩
 rintro _ _ _ ⟨k,c,rfl,hk0,hk,rfl,rfl⟩
 refine⟨rfl,?_⟩
 (conv=>whnf);repeat' (first|(refine EJ (eqWk (x:=_) (y:=_)) (fun hc=>?_) (fun hc=>?_)<;>conv=>whnf)| ((with_reducible show AY _ _ _);refine CG (k) ?_;conv=>whnf)|((with_reducible show AY _ _ _);refine CG (k-1) ?_;conv=>whnf)|(refine kA ?_;conv=>whnf)|(refine Br.mk (fun hc=>?_) fun hc=>?_<;>first|exact hc.elim|conv=>whnf)|(refine kB ?_))
 ·have h1:N7 d (k+1)=N7 d k:=JW hk0 (by assumption)
  have h2:N7 d k=d.toList.take k:=SS k (by omega) hk
  obtain⟨k,rfl⟩:∃k',k=k'+1:=⟨k-1,by omega⟩
  refine Ae (fun m env s=>∃(k2 c w:Nat) (E:Array Wk),m=len-(k+1)-k2∧0<k2∧k+1+k2≤len∧E.size=len∧w=(N7 d (k+1+k2)).length∧w<k+1+k2∧E.toList.take w=N7 d (k+1+k2)∧(∀ j,k+1+k2≤j+1→j<len→E[j]! =d[j]!)∧env=[(0,.own 1 g 0 len),(1,.fn 48 []),(5,.int .i64 w),(6,.own 1 g (k+1) (len-(k+1))),(7,.int .i64 k2)]∧s=⟨[Ap,.arr g 5 nn cl (vs Wk.av E.toList)],c⟩) ?_ _ _ _ ⟨1,_,k+1,d,rfl,by omega,by omega,hl,by rw[h1,h2];simp;omega,by omega,by rw[h1,h2],fun j _ _=>rfl,rfl,rfl⟩
  rintro _ _ _ ⟨k2,c,w,E,rfl,hk2,hkl,hE,hw,hwk,hW,hej,rfl,rfl⟩
  refine⟨rfl,?_⟩
  (conv=>whnf);repeat' (first|(refine EJ (eqWk (x:=_) (y:=_)) (fun hc=>?_) (fun hc=>?_)<;>conv=>whnf)| (apply AU;(· exact nPn (k+1+k2) (by omega) (by first|omega|(simp;omega)));conv=>whnf)|(apply AU;(· exact nPn (k+1+k2-1) (by omega) (by first|omega|(simp;omega)));conv=>whnf)|((with_reducible show AY _ _ _);refine CG (w) ?_;conv=>whnf)|((with_reducible show eqK _ _);refine EP cellsWk (w) ?_;conv=>whnf)|(refine kA ?_;conv=>whnf)|(refine Br.mk (fun hc=>?_) fun hc=>?_<;>first|exact hc.elim|conv=>whnf)|(refine kB ?_))
  ·have e1:=hej (k+1+k2) (by omega) (by omega)
   have e2:=hej (k+1+k2-1) (by omega) (by omega)
   rw[e1,e2]at hc
   exact again.mk ⟨_,by omega,k2+1,_,w,E,rfl,by omega,by omega,hE,by rw[hw,←JW (d:=d) (n:=k+1+k2) (by omega) hc];rfl,by omega,by rw[hW,←JW (d:=d) (n:=k+1+k2) (by omega) hc];rfl,fun j h1 h2=>hej j (by omega) h2,rfl,rfl⟩
  ·have e1:=hej (k+1+k2) (by omega) (by omega)
   have e2:=hej (k+1+k2-1) (by omega) (by omega)
   rw[e1,e2]at hc
   have e3:N7 d (k+1+(k2+1))=N7 d (k+1+k2)++[d[k+1+k2]!]:=ML fun _=>hc
   refine again.mk ⟨_,by omega,k2+1,_,w+1,E.setIfInBounds w E[k+1+k2]!,rfl,by omega,by omega,by simpa using hE,by rw[e3,List.length_append,←hw];rfl,by omega,?_,fun j h1 h2=>?_,rfl,rfl⟩
   ·rw[Array.toList_setIfInBounds,List.take_succ_eq_append_getElem (by simp;omega),e3,←hW,e1]
    simp[List.take_set_of_le]
   ·rw[← hej j (by omega) h2,getElem!_pos _ j (by simp;omega),getElem!_pos E j (by omega),Array.getElem_setIfInBounds_ne (by omega) (by omega)]
  ·have Agz:k+1+k2=len:=by omega
   rw[Agz]at hW hw hwk
   refine Ai (clr (n:=len-w) rfl rfl (by simp;omega) (by omega)) ?_
   have e4:List.take (Int.toNat (w:Int)) (vs Wk.av E.toList)=vs Wk.av (N7 d len++[]):=by
        rw[List.append_nil,←hW];simp[vs,List.map_take]
   (conv=>whnf);repeat' (first  |(refine kA ?_;conv=>whnf)|(refine Br.mk (fun hc=>?_) fun hc=>?_<;>first|exact hc.elim|conv=>whnf)|(refine kB ?_))
   refine⟨c,[],by rw[← hw];rfl,?_⟩
   rw[← e4]
   rfl
 ·exact again.mk ⟨_,by omega,k+1,_,rfl,by omega,fun j h0 hj=>by
   rcases Nat.lt_or_ge j k with h|h
   ·exact hk j h0 h
   ·obtain rfl:j=k:=by omega
    first|exact hc|assumption,rfl,rfl⟩
 ·have e:=hend (fun j h0 hj=>hk j h0 (by omega))
  rw[e,Array.length_toList,hl]
  exact⟨_,[],rfl,by rw[List.append_nil]⟩
end
section
open Go.Sort
theorem hopsR (x:Wk):Au (Ac tab) 50 [x.av] (· =.int .i64 (Yq x)):=by
 have hl:=x.h.1
 have ho:=wk_ok x
 have hw:(gvP x.l).l.length=x.l.length:=wav_len
 by_cases hv:VV 8 (gvP x.l)
 ·have e:Yq x=((x.l.length / 2:Nat):Int):=by unfold Yq;exact if_pos hv
  have p:=vR ho hv
  have q:Au (Ac tab) 83 [x.av] (· =.bool true):=by
   refine Af rfl rfl ?_
   (conv=>whnf);repeat' (first|(refine Aa p ?_;rintro _ rfl;conv=>whnf)|(refine kA ?_;conv=>whnf)|(refine Br.mk (fun hc=>?_) fun hc=>?_<;>first|exact hc.elim|conv=>whnf)|(refine kB ?_))
   all_goals first|rfl|(exfalso;omega)|exact absurd rfl (by assumption)
  rw[e]
  refine Af rfl rfl ?_
  (conv=>whnf);repeat' (first|(refine Aa q ?_;rintro _ rfl;conv=>whnf)|(refine wrap2 (n:=(wav 5 x.l).length) (by rw[wav_len];omega) ?_;conv=>whnf)|(refine kA ?_;conv=>whnf)|(refine Br.mk (fun hc=>?_) fun hc=>?_<;>first|exact hc.elim|conv=>whnf)|(refine kB ?_))
  all_goals first|exact congrArg (AV.int .i64) (by rw[wav_len])|(exfalso;omega)|exact absurd rfl (by assumption)
 ·have e:Yq x=-1:=by unfold Yq;exact if_neg hv
  have p:=vRn ho hv
  have q:Au (Ac tab) 83 [x.av] (· =.bool false):=by
   refine Af rfl rfl ?_
   (conv=>whnf);repeat' (first|(refine Aa p ?_;rintro _ rfl;conv=>whnf)|(refine kA ?_;conv=>whnf)|(refine Br.mk (fun hc=>?_) fun hc=>?_<;>first|exact hc.elim|conv=>whnf)|(refine kB ?_))
   all_goals first|rfl|(exfalso;omega)|exact absurd rfl (by assumption)
  rw[e]
  refine Af rfl rfl ?_
  (conv=>whnf);repeat' (first|(refine Aa q ?_;rintro _ rfl;conv=>whnf)|(refine kA ?_;conv=>whnf)|(refine Br.mk (fun hc=>?_) fun hc=>?_<;>first|exact hc.elim|conv=>whnf)|(refine kB ?_))
  all_goals first|rfl|(exfalso;omega)|exact absurd rfl (by assumption)
theorem ordW_eq (x y:Wk):Ad3 x y=OU (Ia (Yq x) (Yq y)) (Ad4 2 (gvP x.l) (gvP y.l)):=by unfold Ad3;rfl
theorem orderRWk {x y:Wk}:Au (Ac tab) 18 [x.av,y.av] (· =.int .i64 (Ad3 x y)):=by
 have p1:=hopsR x
 have p2:=hopsR y
 have p4:=orderVR 2 (wk_ok x) (wk_ok y) (wk_dep x) (wk_dep y)
 rw[ordW_eq]
 generalize Yq x=a at*
 generalize Yq y=b at*
 generalize Ad4 2 (gvP x.l) (gvP y.l)=z at*
 have e1:a<b→OU (Ia a b) z=-1:=fun h=>by unfold Ia;rw[if_pos h];rfl
 have e2:b<a→OU (Ia a b) z=1:=fun h=>by unfold Ia;rw[if_neg (by omega),if_pos (by omega)];rfl
 have e3:¬a<b→¬b<a→OU (Ia a b) z=z:=fun h1 h2=>by
  unfold Ia
  rw[if_neg (by omega),if_neg (by omega)]
  exact if_pos rfl
 refine Af rfl rfl ?_
 (conv=>whnf);repeat' (first|((first|refine Aa p1 ?_|refine Aa p2 ?_|refine Aa p4 ?_);rintro _ rfl;conv=>whnf)|(refine kA ?_;conv=>whnf)|(refine Br.mk (fun hc=>?_) fun hc=>?_<;>first|exact hc.elim|conv=>whnf)|(refine kB ?_))
 all_goals first
  |(rw [e1 (by omega)];rfl)
  |(rw [e2 (by omega)];rfl)
  |(rw [e3 (by omega) (by omega)];rfl)
structure WSet (S:List Int→Prop) (L:List Wk):Prop where
 inc:L.Pairwise fun x y=>Ad3 x y<0
 mem:∀x,x∈L↔S x.l
theorem ordW_self (x:Wk):Ad3 x x=0:=by have:=pc_ordW.anti x x;omega
theorem WSet.unique {S:List Int→Prop}:∀{l m:List Wk},WSet S l→WSet S m→l=m:=by
 have key:∀{l m:List Wk},l.Pairwise (fun x y=>Ad3 x y<0)→m.Pairwise (fun x y=>Ad3 x y<0)→(∀ x,x∈l↔x∈m)→l=m:=by
  intro l
  induction l with
  |nil=>
   intro m _ _ h
   cases m with
   |nil=>rfl
   |cons b m=>exact absurd ((h b).2 (by simp)) (by simp)
  |cons a l ih=>
   intro m h1 h2 h
   cases m with
   |nil=>exact absurd ((h a).1 (by simp)) (by simp)
   |cons b m=>
    have k1:=List.pairwise_cons.1 h1
    have k2:=List.pairwise_cons.1 h2
    have hab:a=b:=by
     rcases List.mem_cons.1 ((h a).1 (by simp))with e|e
     ·exact e
     rcases List.mem_cons.1 ((h b).2 (by simp))with e2|e2
     ·exact e2.symm
     have q1:=k1.1 b e2
     have q2:=k2.1 a e
     have q3:=pc_ordW.anti a b
     omega
    subst hab
    rw[ih k1.2 k2.2 fun x=>?_]
    constructor
    ·intro hx
     rcases List.mem_cons.1 ((h x).1 (List.mem_cons_of_mem _ hx))with e|e
     ·subst e;have q:=k1.1 x hx;rw[ordW_self]at q;omega
     ·exact e
    ·intro hx
     rcases List.mem_cons.1 ((h x).2 (List.mem_cons_of_mem _ hx))with e|e
     ·subst e;have q:=k2.1 x hx;rw[ordW_self]at q;omega
     ·exact e
 intro l m h1 h2
 exact key h1.inc h2.inc fun x=>by rw[h1.mem,h2.mem]
theorem ltWk_iff {x y:Wk}:AfW x y=true↔Ad3 x y<0:=by unfold AfW;exact decide_eq_true_iff
theorem ltWk_no {x y:Wk}:AfW x y=false↔¬Ad3 x y<0:=by rw[← ltWk_iff];simp
theorem cpnW {W:List Wk} (hs:W.Pairwise (fun x y=>AfW y x=false)):(N7 W.toArray W.length).Pairwise (fun x y=>Ad3 x y<0):=by
 have ht:∀x y:Wk,AfW x y=false→AfW y x=false→x=y:=fun x y h1 h2=>by
  have a:=ltWk_no.1 h1
  have b:=ltWk_no.1 h2
  have c:=pc_ordW.anti x y
  exact ordW_zero (by omega)
 refine List.Pairwise.imp (fun h=>ltWk_iff.1 h) (Zx ltWk_swo ht (d:=W.toArray) ?_ W.length (by simp))
 intro i j h0 hij hj
 simp only[List.size_toArray]at hj
 rw[getElem!_pos _ j (by simpa using hj),getElem!_pos _ i (by simp;omega)]
 simp only[List.getElem_toArray]
 exact List.pairwise_iff_getElem.1 hs i j (by omega) hj hij
theorem mem_cpnW {W:List Wk} {x:Wk}:x∈N7 W.toArray W.length↔x∈W:=by
 rw[OG W.length (by simp)];simp
theorem lift_wk:∀{L:List (List Int)},(∀ x∈L,x.length≤1000∧∀n∈x,I64 n)→∃M:List Wk,M.map (·.l)=L∧vs pav L=vs Wk.av M
 |[],_=>⟨[],rfl,rfl⟩
 |x::L,h=>by
  obtain⟨M,h1,h2⟩:=lift_wk (L:=L) fun y hy=>h y (List.mem_cons_of_mem _ hy)
  refine⟨⟨x,h x (by simp)⟩::M,by rw[List.map_cons,h1],?_⟩
  show pav x::vs pav L=Wk.av ⟨x,h x (by simp)⟩::vs Wk.av M
  rw[h2];rfl
theorem lift_mem {M:List Wk} {x:Wk}:x∈M↔x.l∈M.map (·.l):=by
 constructor
 ·exact fun h=>List.mem_map.2 ⟨x,h,rfl⟩
 ·intro h
  obtain⟨y,hy,e⟩:=List.mem_map.1 h
  obtain⟨l,hl⟩:=x;obtain⟨m,hm⟩:=y
  obtain rfl:m=l:=e
  exact hy
def WalkS (st:Int→List (Int×Int)) (k:Nat) (a b:Int) (x:List Int):Prop:=∃t,x=[a]++t∧Wt st k a b t
theorem WalkS.wk {types:List (List UInt8)} {dir:Int} {E:List GE} (hE:∀e∈E,I64 e.id∧I64 e.fr∧I64 e.to) {k:Nat} (hk:k≤6) {a b:Int} (ha:I64 a) {x:List Int} (h:WalkS (stT types dir E) k a b x):x.length≤1000∧∀n∈x,I64 n:=by
 obtain⟨t,rfl,ht⟩:=h
 have h1:=ht.len
 refine⟨by rw[List.length_append,List.length_singleton];omega,fun n hn=>?_⟩
 rcases List.mem_append.1 hn with hn|hn
 ·simp at hn;subst hn;exact ha
 ·exact ht.ids hE n hn
theorem ok_ids {g:GG} (hg:g.ok):∀e∈g.edges,I64 e.id∧I64 e.fr∧I64 e.to:=fun e he=>by
 have h:=hg.2.2.2.2.2.1 e he
 exact⟨h.1,h.2.1,h.2.2.1⟩
theorem revP {d:Int}:Au (Ac tab) 42 [.int .i64 d] (· =.int .i64 (revD d)):=by
 unfold revD
 by_cases h1:d=1
 ·subst h1
  refine Af rfl rfl ?_
  (conv=>whnf);repeat' (first  |(refine kA ?_;conv=>whnf)|(refine Br.mk (fun hc=>?_) fun hc=>?_<;>first|exact hc.elim|conv=>whnf)|(refine kB ?_))
  all_goals first|rfl|(exfalso;omega)|exact absurd rfl (by assumption)
 ·rw[if_neg h1]
  by_cases h2:d=2
  ·subst h2
   refine Af rfl rfl ?_
   (conv=>whnf);repeat' (first  |(refine kA ?_;conv=>whnf)|(refine Br.mk (fun hc=>?_) fun hc=>?_<;>first|exact hc.elim|conv=>whnf)|(refine kB ?_))
   all_goals first|rfl|(exfalso;omega)|exact absurd rfl (by assumption)
  ·rw[if_neg h2]
   refine Af rfl rfl ?_
   (conv=>whnf);repeat' (first  |(refine kA ?_;conv=>whnf)|(refine Br.mk (fun hc=>?_) fun hc=>?_<;>first|exact hc.elim|conv=>whnf)|(refine kB ?_))
   all_goals first|rfl|(exfalso;omega)|exact absurd (by assumption) h1|exact absurd (by assumption) h2
set_option maxHeartbeats 4000000 in
theorem allP {g:GG} (hg:g.ok) (hf:U8 g) (hl:g.nodes.length<2^62) (hE:g.edges.length≤8) {x:Abh} (hT:x.types.length<2^63) (hfr:I64 x.fr) {k:Nat} (hk:FC g x.types x.dir x.fr x.to x.lo x.hi=some k):
 Au (Ac tab) 17 [g.av,.int .i64 x.fr,.int .i64 x.to,.sl x.tn (vs .str x.types),.int .i64 x.dir,.int .i64 x.lo,.int .i64 x.hi] (fun v=>∃nn L,v=.sl nn (vs Wk.av L)∧L.length≤1000000∧WSet (WalkS (stT x.types x.dir g.edges) k x.fr x.to) L):=by
 have pD:=UF (g:=g) hg hf hl (by omega) (types:=x.types) (tn:=x.tn) hT (dir:=x.dir) (a:=x.fr) (b:=x.to) (lo:=x.lo) (hi:=x.hi)
 rw[hk]at pD
 unfold UG at pD
 dsimp only at pD
 obtain⟨_,_,hk6,_,_,hlv⟩:=distO_some hk
 obtain⟨_,⟨A,rfl,hA⟩,pL⟩:=(Ws (g:=g) hg (by omega) (types:=x.types) (tn:=x.tn) hT (dir:=revD x.dir) (a:=x.to) (k:=k) (by omega)).Oj
 have hin:x.fr∈Ea (CY x.types (revD x.dir) g.edges) x.to k:=(VK nbT_rev).1 hlv
 obtain⟨_,⟨L,rfl,hLl,hL⟩,pW⟩:=ownR_det (walksC (g:=g) hg hE (types:=x.types) (tn:=x.tn) hT (dir:=x.dir) (b:=x.to) k (m:=0) (w:=[x.fr]) (a:=x.fr) (na:=true) (A:=A) (by omega) rfl hA hin)
 obtain⟨M,hM,eM⟩:=lift_wk (L:=L) fun y hy=>WalkS.wk (ok_ids hg) hk6 hfr ((hL y).1 hy)
 rw[eM]at pW
 have hMl:M.length=L.length:=by rw[← hM,List.length_map]
 have h86:8 ^ k≤8 ^ 6:=pow_le hk6
 have h68:(8:Nat) ^ 6=262144:=by decide
 refine Af rfl rfl ?_
 (conv=>whnf);repeat' (first|((first|refine Aa pD ?_|refine Aa revP ?_|refine Aa pL ?_|refine Aa valNode ?_);rintro _ rfl;conv=>whnf)|(refine ownKh rfl pW (fun nn=>?_);conv=>whnf)|(refine kA ?_;conv=>whnf)|(refine Br.mk (fun hc=>?_) fun hc=>?_<;>first|exact hc.elim|conv=>whnf)|(refine kB ?_))
 all_goals first|exact absurd rfl (by assumption)|(exfalso;omega)|skip
 refine(pvsort (L:=M) (lV M).symm (by rw[lV];omega)).mono ?_
 rintro _ _ ⟨c1,W,rfl,rfl,w1,w2⟩
 have hwl:=w1.length_eq
 conv=>whnf
 apply Ai rfl
 (conv=>whnf);repeat' (first  |(refine kA ?_;conv=>whnf)|(refine Br.mk (fun hc=>?_) fun hc=>?_<;>first|exact hc.elim|conv=>whnf)|(refine kB ?_))
 refine(pvcpt (d:=W.toArray) (by simp;omega) (by rw[lV];omega)).mono ?_
 rintro _ _ ⟨c2,T,rfl,rfl⟩
 rw[show (vs Wk.av M).length=W.length by rw[lV];omega]
 conv=>whnf
 apply Ai rfl
 (conv=>whnf);repeat' (first  |(refine kA ?_;conv=>whnf)|(refine Br.mk (fun hc=>?_) fun hc=>?_<;>first|exact hc.elim|conv=>whnf)|(refine kB ?_))
 have hcl:=cpn_len W.toArray W.length
 refine⟨nn,N7 W.toArray W.length,by rw[Vz];simp,by omega,cpnW w2,fun y=>?_⟩
 rw[mem_cpnW,w1.mem_iff,lift_mem,hM,hL]
 rfl
end
section
open Go.Sort
theorem ordW_tr {x y z:Wk} (h1:Ad3 x y<0) (h2:Ad3 y z<0):Ad3 x z<0:=ltWk_iff.1 (ltWk_swo.trans _ _ _ (ltWk_iff.2 h1) (ltWk_iff.2 h2))
theorem insW {O:List Wk} {x:Wk} {k:Nat} (hs:O.Pairwise (fun a b=>Ad3 a b<0)) (h1:∀y∈O.take k,Ad3 y x<0) (h2:∀h:k<O.length,0<Ad3 O[k] x):(O.take k++x::O.drop k).Pairwise (fun a b=>Ad3 a b<0):=by
 have hd:∀z∈O.drop k,Ad3 x z<0:=fun z hz=>by
  obtain⟨j,hj,rfl⟩:=List.getElem_of_mem hz
  rw[List.length_drop]at hj
  rw[List.getElem_drop]
  have h3:=h2 (by omega)
  have h4:=pc_ordW.anti (O[k]'(by omega)) x
  have h5:Ad3 x (O[k]'(by omega))<0:=by omega
  rcases Nat.eq_or_lt_of_le (Nat.zero_le j)with h|h
  ·subst h;exact h5
  ·exact ordW_tr h5 (List.pairwise_iff_getElem.1 hs k (k+j) (by omega) (by omega) (by omega))
 refine List.pairwise_append.2 ⟨hs.sublist (List.take_sublist k O),List.pairwise_cons.2 ⟨hd,hs.sublist (List.drop_sublist k O)⟩,fun a ha b hb=>?_⟩
 rcases List.mem_cons.1 hb with rfl|hb
 ·exact h1 a ha
 ·exact ordW_tr (h1 a ha) (hd b hb)
theorem memInsW {O:List Wk} {x y:Wk} {k:Nat}:y∈O.take k++x::O.drop k↔y∈O∨y=x:=by
 have h:y∈O↔y∈O.take k∨y∈O.drop k:=by rw[← List.mem_append,List.take_append_drop]
 rw[h,List.mem_append,List.mem_cons]
 constructor
 ·rintro(h|h|h)
  ·exact .inl (.inl h)
  ·exact .inr h
  ·exact .inl (.inr h)
 ·rintro((h|h)|h)
  ·exact .inl h
  ·exact .inr (.inr h)
  ·exact .inr (.inl h)
set_option maxHeartbeats 8000000 in
theorem allR {g:GG} (hg:g.ok) (hl:g.nodes.length<2^62) (hE:g.edges.length≤8) {x:Abh} (hT:x.types.length<2^63) (hfr:I64 x.fr) {k:Nat} (hk:FC g x.types x.dir x.fr x.to x.lo x.hi=some k):
 Au (Ac tab) 26 [g.av,.int .i64 x.fr,.int .i64 x.to,.sl x.tn (vs .str x.types),.int .i64 x.dir,.int .i64 x.lo,.int .i64 x.hi] (fun v=>∃nn L,v=.sl nn (vs Wk.av L)∧L.length≤1000000∧WSet (WalkS (stT x.types x.dir g.edges) k x.fr x.to) L):=by
 have pD:=DistR (g:=g) hg hl (by omega) (types:=x.types) (tn:=x.tn) hT (dir:=x.dir) (a:=x.fr) (b:=x.to) (lo:=x.lo) (hi:=x.hi)
 rw[hk]at pD
 unfold UG at pD
 dsimp only at pD
 obtain⟨_,_,hk6,_,_,hlv⟩:=distO_some hk
 obtain⟨_,⟨ln,L,rfl,hLl,hL⟩,pW⟩:=(walksR (g:=g) hg hE (types:=x.types) (tn:=x.tn) hT (dir:=x.dir) (b:=x.to) k (m:=0) (w:=[x.fr]) (a:=x.fr) (by omega) rfl rfl).Oj
 obtain⟨M,hM,eM⟩:=lift_wk (L:=L) fun y hy=>WalkS.wk (ok_ids hg) hk6 hfr ((hL y).1 hy)
 rw[eM]at pW
 have hMl:M.length=L.length:=by rw[← hM,List.length_map]
 have h86:8 ^ k≤8 ^ 6:=pow_le hk6
 have h68:(8:Nat) ^ 6=262144:=by decide
 refine Af rfl rfl ?_
 (conv=>whnf);repeat' (first|((first|refine Aa pD ?_|refine Aa pW ?_);rintro _ rfl;conv=>whnf)|(refine kA ?_;conv=>whnf)|(refine Br.mk (fun hc=>?_) fun hc=>?_<;>first|exact hc.elim|conv=>whnf)|(refine kB ?_))
 all_goals first|exact absurd rfl (by assumption)|(exfalso;omega)|skip
 clear pD pW
 refine Ae (fun m env s=>∃(i c:Nat) (ob:Bool) (O:List Wk),m=M.length-i∧i≤M.length∧O.length≤i∧O.Pairwise (fun a b=>Ad3 a b<0)∧(∀ y,y∈O↔y∈M.take i)∧env=[(17,.sl ln (vs Wk.av M)),(18,.sl ob (vs Wk.av O)),(19,.int .i64 i)]∧s=⟨[.arr 0 4 true true [g.av]],c⟩) ?_ _ _ _ ⟨0,_,false,[],rfl,by omega,by simp,List.Pairwise.nil,by simp,rfl,rfl⟩
 rintro _ _ _ ⟨i,c,ob,O,rfl,hi,YI,hOs,hOm,rfl,rfl⟩
 refine⟨rfl,?_⟩
 by_cases hil:i<M.length
 ·(conv=>whnf);repeat' (first  |(refine kA ?_;conv=>whnf)|(refine Br.mk (fun hc=>?_) fun hc=>?_<;>first|exact hc.elim|conv=>whnf)|(refine kB ?_))
  all_goals first|(exfalso;omega)|skip
  refine Ae (fun m env s=>∃(j c:Nat),m=O.length-j∧j≤O.length∧(∀ y∈O.take j,Ad3 y M[i]<0)∧env=[(17,.sl ln (vs Wk.av M)),(18,.sl ob (vs Wk.av O)),(19,.int .i64 i),(20,.int .i64 j)]∧s=⟨[.arr 0 4 true true [g.av]],c⟩) ?_ _ _ _ ⟨0,_,rfl,by omega,by simp,rfl,rfl⟩
  rintro _ _ _ ⟨j,c,rfl,hj,hy,rfl,rfl⟩
  refine⟨rfl,?_⟩
  have hst:∀y,y∈M.take (i+1)↔y∈M.take i∨y=M[i]:=fun y=>by rw[List.take_succ_eq_append_getElem hil,List.mem_append,List.mem_singleton]
  by_cases hjl:j<O.length
  ·have po:=@orderRWk O[j] M[i]
   by_cases h1:Ad3 O[j] M[i]<0
   ·have hq:=h1
    generalize Ad3 O[j] M[i]=z at po h1
    (conv=>whnf);repeat' (first|(refine Aa po ?_;rintro _ rfl;conv=>whnf)|(refine kA ?_;conv=>whnf)|(refine Br.mk (fun hc=>?_) fun hc=>?_<;>first|exact hc.elim|conv=>whnf)|(refine kB ?_))
    all_goals first
       |(exfalso;omega)
       |exact again.mk ⟨_,by omega,j+1,_,rfl,by omega,fun y hy'=>by
          rw[List.take_succ_eq_append_getElem hjl,List.mem_append,List.mem_singleton]at hy'
          rcases hy' with q|q
          ·exact hy y q
          ·subst q;exact hq,rfl,rfl⟩
   ·by_cases h2:Ad3 O[j] M[i]=0
    ·have hx:O[j]=M[i]:=ordW_zero h2
     have hm:∀y,y∈O↔y∈M.take (i+1):=fun y=>by
      rw[hst,←hOm]
      constructor
      ·exact .inl
      ·rintro(q|q)
       ·exact q
       ·rw[q,←hx];exact List.getElem_mem hjl
     rw[h2]at po
     (conv=>whnf);repeat' (first|(refine Aa po ?_;rintro _ rfl;conv=>whnf)|(refine kA ?_;conv=>whnf)|(refine Br.mk (fun hc=>?_) fun hc=>?_<;>first|exact hc.elim|conv=>whnf)|(refine kB ?_))
     all_goals first
      |(exfalso;omega)
      |exact absurd rfl (by assumption)
      |exact again.mk ⟨_,by omega,i+1,_,ob,O,rfl,by omega,by omega,hOs,hm,rfl,rfl⟩
    ·have hins:=insW (x:=M[i]) hOs hy (fun _=>by omega)
     have hm:∀y,y∈O.take j++M[i]::O.drop j↔y∈M.take (i+1):=fun y=>by rw[memInsW,hst,hOm]
     have e:(([]++O.take j)++[M[i]])++O.drop j=O.take j++M[i]::O.drop j:=by simp
     generalize Ad3 O[j] M[i]=z at po h1 h2
     (conv=>whnf);repeat' (first|(refine Aa po ?_;rintro _ rfl;conv=>whnf)|(refine need.mk (Hq cellsWk O) ?_;conv=>whnf)|(refine Xh (f:=Wk.av) (L:=O) ?_;conv=>whnf)|(refine AaJ (f:=Wk.av) (l:=[]) (l':=O.take j) (by simp) cellsWk rfl (by simp;omega) ?_;conv=>whnf)|(refine Kz (f:=Wk.av) (l:=[]++O.take j) (x:=M[i]) cellsWk (by simp) (by simp;omega) ?_;conv=>whnf)|(refine AaJ (f:=Wk.av) (l:=([]++O.take j)++[M[i]]) (l':=O.drop j) (by simp;rw[List.take_of_length_le (by simp)]) cellsWk (by simp) (by simp;omega) ?_;conv=>whnf)|(refine kA ?_;conv=>whnf)|(refine Br.mk (fun hc=>?_) fun hc=>?_<;>first|exact hc.elim|conv=>whnf)|(refine kB ?_))
     all_goals first
      |(exfalso;omega)
      |(rw [← List.length_append,uV,e];exact again.mk ⟨_,by omega,i+1,_,_,_,rfl,by omega,by simp;omega,hins,hm,rfl,rfl⟩)
  ·have hins:=insW (x:=M[i]) hOs hy (fun h=>absurd h (by omega))
   have hm:∀y,y∈O.take j++M[i]::O.drop j↔y∈M.take (i+1):=fun y=>by rw[memInsW,hst,hOm]
   have e:(([]++O.take j)++[M[i]])++O.drop j=O.take j++M[i]::O.drop j:=by simp
   (conv=>whnf);repeat' (first|(refine need.mk (Hq cellsWk O) ?_;conv=>whnf)|(refine Xh (f:=Wk.av) (L:=O) ?_;conv=>whnf)|(refine AaJ (f:=Wk.av) (l:=[]) (l':=O.take j) (by simp) cellsWk rfl (by simp;omega) ?_;conv=>whnf)|(refine Kz (f:=Wk.av) (l:=[]++O.take j) (x:=M[i]) cellsWk (by simp) (by simp;omega) ?_;conv=>whnf)|(refine AaJ (f:=Wk.av) (l:=([]++O.take j)++[M[i]]) (l':=O.drop j) (by simp;rw[List.take_of_length_le (by simp)]) cellsWk (by simp) (by simp;omega) ?_;conv=>whnf)|(refine kA ?_;conv=>whnf)|(refine Br.mk (fun hc=>?_) fun hc=>?_<;>first|exact hc.elim|conv=>whnf)|(refine kB ?_))
   all_goals first
        |(exfalso;omega)
        |(rw [← List.length_append,uV,e];exact again.mk ⟨_,by omega,i+1,_,_,_,rfl,by omega,by simp;omega,hins,hm,rfl,rfl⟩)
 ·rw[List.take_of_length_le (by omega)]at hOm
  (conv=>whnf);repeat' (first  |(refine kA ?_;conv=>whnf)|(refine Br.mk (fun hc=>?_) fun hc=>?_<;>first|exact hc.elim|conv=>whnf)|(refine kB ?_))
  all_goals first
   |(exfalso;omega)
   |(refine ⟨_,O,rfl,by omega,hOs,fun y=>?_⟩
     rw[hOm,lift_mem,hM,hL]
     rfl)
end
end AI
end Go.Proofs.YthjeehjphekjmaaGreatDoor
