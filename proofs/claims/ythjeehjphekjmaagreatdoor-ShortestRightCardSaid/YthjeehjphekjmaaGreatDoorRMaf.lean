/- Sorting in place (Ordered[int]): the whole. A sorted list without its repeated elements. Sorting (slices.Sort[[]int,int]), leaving out what repeats (slices.Compact[[]int,int]). Leaving out what repeats (slices.Compact[[]int,int]). The nodes one step on, and the levels: the program's and the reference's. -/
import Derived.Test.YthjeehjphekjmaaGreatDoorRMae
import Derived.Test.YthjeehjphekjmaaGreatDoorRPjC
import Derived.Test.YthjeehjphekjmaaGreatDoorRMab
import Derived.Test.YthjeehjphekjmaaGreatDoorRMad
set_option linter.unusedVariables false
set_option maxRecDepth 4000
namespace Go.Proofs.YthjeehjphekjmaaGreatDoor
namespace AI
section
open Go.Sort
abbrev Xg (Ap:Obj) (g len:Nat) (nn cl:Bool) (a b:Nat):Prop:=∀(c:Nat) (limit:Int) (d:Array Int),d.size=len→b≤len→a≤b→0≤limit→limit<2^62→Below Ci a b d→
 AQ (Ac tab) 100 [.own 1 g 0 len,.int .i64 a,.int .i64 b,.int .i64 limit] ⟨[Ap,.arr g 1 nn cl (vs (.int .i64) d.toList)],c⟩ fun out s'=>∃c' D,out=.ok (.CO [])∧s'=⟨[Ap,.arr g 1 nn cl (vs (.int .i64) D.toList)],c'⟩∧PermIn a b d D∧SortedIn Ci a b D
def DK:Am→Am
 | .seq _ b=>b
 |c=>c
def Gt:Am→Am
 | .seq a _=>a
 |c=>c
def KL:Am→Am
 | .block _ a=>a
 |c=>c
noncomputable def QC:Am:=DK (DK (DK (KL l100_0_b)))
noncomputable def Aa6:Am:=DK (DK (DK QC))
noncomputable def Aa7:Am:=DK Aa6
noncomputable def Afb:Am:=DK Aa7
abbrev AbP (Ap:Obj) (g len:Nat) (nn cl:Bool) (a b:Nat) (d:Array Int) (m:Nat) (env:Env) (s:Ag):Prop:=
 ∃(a' b' c:Nat) (limit:Int) (wb wp:Bool) (D:Array Int),m=b'-a'∧a'≤b'∧b'≤len∧b'-a'≤b-a∧0≤limit∧limit<2^62∧D.size=len∧Below Ci a' b' D∧(∀ R,PermIn a' b' D R→SortedIn Ci a' b' R→PermIn a b d R∧SortedIn Ci a b R)∧
  env=[(0,.own 1 g 0 len),(1,.int .i64 a'),(2,.int .i64 b'),(3,.int .i64 limit),(8,.bool wb),(9,.bool wp)]∧s=⟨[Ap,.arr g 1 nn cl (vs (.int .i64) D.toList)],c⟩
section
variable {Ap:Obj} {g len:Nat} {nn cl:Bool} {a b:Nat} {d:Array Int}
def Rt (Ap:Obj) (g len:Nat) (nn cl:Bool) (a b:Nat) (d:Array Int) (m:Nat):Ak→Env→Ag→Prop:=
 Va 1 (Aau l100_0_h (again (AbP Ap g len nn cl a b d) m) (Va 0 (Nq a100 fun out s'=>∃c' D,out=.ok (.CO [])∧s'=⟨[Ap,.arr g 1 nn cl (vs (.int .i64) D.toList)],c'⟩∧PermIn a b d D∧SortedIn Ci a b D)))
set_option maxHeartbeats 2000000 in
theorem Adl {tl:Env} (hs:len<2^61) (ih:∀x y,y-x<b-a→Xg Ap g len nn cl x y) {a' b' c p:Nat} {limit:Int} {wb wp:Bool} {D:Array Int} (hab:a'+12<b') (hb:b'≤len) (hle:b'-a'≤b-a) (hlim:0≤limit) (Ec:limit<2^62) (hD:D.size=len) (hB:Below Ci a' b' D)
 (hR:∀R,PermIn a' b' D R→SortedIn Ci a' b' R→PermIn a b d R∧SortedIn Ci a b R) (hp1:a'≤p) (hp2:p<b'):
 vC (Ac tab) Afb ([(0,.own 1 g 0 len),(1,.int .i64 a'),(2,.int .i64 b'),(3,.int .i64 limit),(8,.bool wb),(9,.bool wp),(10,.int .i64 (b'-a':Nat)),(11,.int .i64 p)]++tl) ⟨[Ap,.arr g 1 nn cl (vs (.int .i64) D.toList)],c⟩ (Rt Ap g len nn cl a b d (b'-a')):=by
 unfold Rt
 (conv=>whnf);repeat' (first  |(refine kA ?_;conv=>whnf)|(refine Br.mk (fun hc=>?_) fun hc=>?_<;>first|exact hc.elim|conv=>whnf)|(refine kB ?_))
 refine(Afc hD hb hp1 hp2 hs).mono ?_
 rintro _ _ ⟨c1,rfl,rfl⟩
 generalize hx:partition Ci D a' b' p=R
 obtain⟨mid,ap,E⟩:=R
 obtain⟨m1,m2,hE,hBl,hBr,fl,fr⟩:=round_part J8 (partition_holds Ci) hp1 hp2 (by omega) hB hx
 dsimp only
 conv=>whnf
 apply Ai rfl
 (conv=>whnf);repeat' (first|(refine Jr (b'-a') 8 (by omega) (by omega) ?_;conv=>whnf)|(refine kA ?_;conv=>whnf)|(refine Br.mk (fun hc=>?_) fun hc=>?_<;>first|exact hc.elim|conv=>whnf)|(refine kB ?_))
 all_goals first
  |(refine (ih a' mid (by omega) _ limit E (by omega) (by omega) m1 hlim Ec hBl).mono ?_
    rintro _ _ ⟨c2,L,rfl,rfl,q1,q2⟩
    obtain⟨hBL,fin⟩:=fl L q1 q2
    conv=>whnf
    apply Ai rfl
    (conv=>whnf);repeat' (first  |(refine kA ?_;conv=>whnf)|(refine Br.mk (fun hc=>?_) fun hc=>?_<;>first|exact hc.elim|conv=>whnf)|(refine kB ?_))
    exact again.mk ⟨_,by omega,mid+1,b',_,limit,_,_,L,rfl,by omega,hb,by omega,hlim,Ec,by rw[q1.1,hE,hD],hBL,fun R h1 h2=>hR R (fin R h1 h2).1 (fin R h1 h2).2,rfl,rfl⟩)
  |(refine (ih (mid+1) b' (by omega) _ limit E (by omega) hb (by omega) hlim Ec hBr).mono ?_
    rintro _ _ ⟨c2,L,rfl,rfl,q1,q2⟩
    obtain⟨hBL,fin⟩:=fr L q1 q2
    conv=>whnf
    apply Ai rfl
    (conv=>whnf);repeat' (first  |(refine kA ?_;conv=>whnf)|(refine Br.mk (fun hc=>?_) fun hc=>?_<;>first|exact hc.elim|conv=>whnf)|(refine kB ?_))
    exact again.mk ⟨_,by omega,a',mid,_,limit,_,_,L,rfl,by omega,by omega,by omega,hlim,Ec,by rw[q1.1,hE,hD],hBL,fun R h1 h2=>hR R (fin R h1 h2).1 (fin R h1 h2).2,rfl,rfl⟩)
theorem Adm {tl:Env} (hs:len<2^61) {a' b' c p:Nat} {limit:Int} {wb wp:Bool} {D:Array Int} {K:Env→Ag→Prop} {Q:Ak→Env→Ag→Prop} (hab:a'+12<b') (hb:b'≤len) (hD:D.size=len) (hB:Below Ci a' b' D) (hp1:a'≤p) (hp2:p<b')
 (hK:∀tl,K ([(0,.own 1 g 0 len),(1,.int .i64 a'),(2,.int .i64 b'),(3,.int .i64 limit),(8,.bool wb),(9,.bool wp),(10,.int .i64 (b'-a':Nat)),(11,.int .i64 p)]++tl) ⟨[Ap,.arr g 1 nn cl (vs (.int .i64) D.toList)],c⟩)
 (hQ:∀c' mid (E:Array Int),a'<mid→mid≤b'→E.size=len→Below Ci mid b' E→(∀ R,PermIn mid b' E R→SortedIn Ci mid b' R→PermIn a' b' D R∧SortedIn Ci a' b' R)→
   Q (.exit 1) [(0,.own 1 g 0 len),(1,.int .i64 mid),(2,.int .i64 b'),(3,.int .i64 limit),(8,.bool wb),(9,.bool wp)] ⟨[Ap,.arr g 1 nn cl (vs (.int .i64) E.toList)],c'⟩):
 vC (Ac tab) (Gt Aa7) ([(0,.own 1 g 0 len),(1,.int .i64 a'),(2,.int .i64 b'),(3,.int .i64 limit),(8,.bool wb),(9,.bool wp),(10,.int .i64 (b'-a':Nat)),(11,.int .i64 p)]++tl) ⟨[Ap,.arr g 1 nn cl (vs (.int .i64) D.toList)],c⟩ (Ju K Q):=by
 (conv=>whnf);repeat' (first|exact hK _|((with_reducible show AY _ _ _);refine CG (a'-1) ?_;conv=>whnf)|((with_reducible show AY _ _ _);refine CG (p) ?_;conv=>whnf)|(refine FX Io (fun hc=>?_) (fun hc=>?_)<;>conv=>whnf)|(refine kA ?_;conv=>whnf)|(refine Br.mk (fun hc=>?_) fun hc=>?_<;>first|exact hc.elim|conv=>whnf)|(refine kB ?_))
 refine(Afd hD hb hp1 hp2 hs).mono ?_
 rintro _ _ ⟨c1,rfl,rfl⟩
 generalize hx:partitionEqual Ci D a' b' p=R
 obtain⟨mid,E⟩:=R
 obtain⟨m1,m2,hE,hBr,fin⟩:=round_eq J8 (partitionEqual_holds Ci) (by omega) hp1 hp2 (by omega) hB hc hx
 dsimp only
 conv=>whnf
 apply Ai rfl
 (conv=>whnf);repeat' (first  |(refine kA ?_;conv=>whnf)|(refine Br.mk (fun hc=>?_) fun hc=>?_<;>first|exact hc.elim|conv=>whnf)|(refine kB ?_))
 exact hQ _ mid E m1 m2 (by omega) hBr fin
theorem Adn {tl:Env} (hs:len<2^61) {a' b' c p:Nat} {limit h:Int} {wb wp:Bool} {D:Array Int} {K:Env→Ag→Prop} {Q:Ak→Env→Ag→Prop} (hab:a'+12<b') (hb:b'≤len) (hD:D.size=len) (hB:Below Ci a' b' D)
 (hK:∀tl c (E:Array Int),PermIn a' b' D E→K ([(0,.own 1 g 0 len),(1,.int .i64 a'),(2,.int .i64 b'),(3,.int .i64 limit),(8,.bool wb),(9,.bool wp),(10,.int .i64 (b'-a':Nat)),(11,.int .i64 p)]++tl) ⟨[Ap,.arr g 1 nn cl (vs (.int .i64) E.toList)],c⟩)
 (hQ:∀c (E:Array Int) env,PermIn a' b' D E→SortedIn Ci a' b' E→Q .ret env ⟨[Ap,.arr g 1 nn cl (vs (.int .i64) E.toList)],c⟩):
 vC (Ac tab) (Gt Aa6) ([(0,.own 1 g 0 len),(1,.int .i64 a'),(2,.int .i64 b'),(3,.int .i64 limit),(8,.bool wb),(9,.bool wp),(10,.int .i64 (b'-a':Nat)),(11,.int .i64 p),(12,.int .i64 h)]++tl) ⟨[Ap,.arr g 1 nn cl (vs (.int .i64) D.toList)],c⟩ (Ju K Q):=by
 (conv=>whnf);repeat' (first|exact hK _ _ _ (permIn_refl _ _ _)|(refine kA ?_;conv=>whnf)|(refine Br.mk (fun hc=>?_) fun hc=>?_<;>first|exact hc.elim|conv=>whnf)|(refine kB ?_))
 refine(Ado hD hb (by omega) hs).mono ?_
 rintro _ _ ⟨c1,rfl,rfl⟩
 have hp:=partialInsertionSort_holds J8 D a' b' (by omega) (by omega) hB
 generalize partialInsertionSort Ci D a' b'=R at hp
 obtain⟨E,r⟩:=R
 obtain⟨q1,q2⟩:=hp
 dsimp only at q1 q2 ⊢
 conv=>whnf
 apply Ai rfl
 cases r with
 |true=>
  (conv=>whnf);repeat' (first  |(refine kA ?_;conv=>whnf)|(refine Br.mk (fun hc=>?_) fun hc=>?_<;>first|exact hc.elim|conv=>whnf)|(refine kB ?_))
  exact hQ _ E _ q1 (q2 rfl)
 |false=>
  (conv=>whnf);repeat' (first|exact hK _ _ _ q1|(refine kA ?_;conv=>whnf)|(refine Br.mk (fun hc=>?_) fun hc=>?_<;>first|exact hc.elim|conv=>whnf)|(refine kB ?_))
theorem Adp {tl:Env} (hs:len<2^61) {a' b' c p:Nat} {limit h:Int} {wb wp:Bool} {D:Array Int} {K:Env→Ag→Prop} {Q:Ak→Env→Ag→Prop} (hab:a'+12<b') (hb:b'≤len) (hD:D.size=len) (hp1:a'≤p) (hp2:p<b')
 (hK:∀tl c (p:Nat) h (E:Array Int),PermIn a' b' D E→a'≤p→p<b'→K ([(0,.own 1 g 0 len),(1,.int .i64 a'),(2,.int .i64 b'),(3,.int .i64 limit),(8,.bool wb),(9,.bool wp),(10,.int .i64 (b'-a':Nat)),(11,.int .i64 p),(12,.int .i64 h)]++tl) ⟨[Ap,.arr g 1 nn cl (vs (.int .i64) E.toList)],c⟩):
 vC (Ac tab) (Gt (DK (DK QC))) ([(0,.own 1 g 0 len),(1,.int .i64 a'),(2,.int .i64 b'),(3,.int .i64 limit),(8,.bool wb),(9,.bool wp),(10,.int .i64 (b'-a':Nat)),(11,.int .i64 p),(12,.int .i64 h)]++tl) ⟨[Ap,.arr g 1 nn cl (vs (.int .i64) D.toList)],c⟩ (Ju K Q):=by
 (conv=>whnf);repeat' (first|exact hK _ _ _ _ _ (permIn_refl _ _ _) hp1 hp2|(refine kA ?_;conv=>whnf)|(refine Br.mk (fun hc=>?_) fun hc=>?_<;>first|exact hc.elim|conv=>whnf)|(refine kB ?_))
 refine(AeS hD hb (by omega) hs).mono ?_
 rintro _ _ ⟨c1,E,rfl,rfl,q1⟩
 conv=>whnf
 apply Ai rfl
 have e:(b':Int)-1-((p:Int)-a')=((b'-1-(p-a'):Nat):Int):=by omega
 have hK':=fun tl=>hK tl c1 (b'-1-(p-a')) 1 E q1 (by omega) (by omega)
 rw[← e]at hK'
 (conv=>whnf);repeat' (first|exact hK' _|(refine kA ?_;conv=>whnf)|(refine Br.mk (fun hc=>?_) fun hc=>?_<;>first|exact hc.elim|conv=>whnf)|(refine kB ?_))
theorem Adq {tl:Env} (hs:len<2^61) {a' b' c:Nat} {limit:Int} {wb wp:Bool} {D:Array Int} {K:Env→Ag→Prop} {Q:Ak→Env→Ag→Prop} (hab:a'+12<b') (hb:b'≤len) (hD:D.size=len)
 (hK:∀tl c (p:Nat) h,a'≤p→p<b'→K ([(0,.own 1 g 0 len),(1,.int .i64 a'),(2,.int .i64 b'),(3,.int .i64 limit),(8,.bool wb),(9,.bool wp),(10,.int .i64 (b'-a':Nat)),(11,.int .i64 p),(12,.int .i64 h)]++tl) ⟨[Ap,.arr g 1 nn cl (vs (.int .i64) D.toList)],c⟩):
 vC (Ac tab) (Gt (DK QC)) ([(0,.own 1 g 0 len),(1,.int .i64 a'),(2,.int .i64 b'),(3,.int .i64 limit),(8,.bool wb),(9,.bool wp),(10,.int .i64 (b'-a':Nat))]++tl) ⟨[Ap,.arr g 1 nn cl (vs (.int .i64) D.toList)],c⟩ (Ju K Q):=by
 (conv=>whnf);repeat' (first  |(refine kA ?_;conv=>whnf)|(refine Br.mk (fun hc=>?_) fun hc=>?_<;>first|exact hc.elim|conv=>whnf)|(refine kB ?_))
 refine(AeR hD hb hab hs).mono ?_
 rintro _ _ ⟨c1,p,h,ob,rfl,rfl,q1,q2⟩
 conv=>whnf
 apply Ai rfl
 (conv=>whnf);repeat' (first|exact hK _ _ _ _ q1 q2|(refine kA ?_;conv=>whnf)|(refine Br.mk (fun hc=>?_) fun hc=>?_<;>first|exact hc.elim|conv=>whnf)|(refine kB ?_))
theorem Adr {tl:Env} (hs:len<2^61) {a' b' c:Nat} {limit:Int} {wb wp:Bool} {D:Array Int} {K:Env→Ag→Prop} {Q:Ak→Env→Ag→Prop} (hab:a'+12<b') (hb:b'≤len) (hD:D.size=len) (hlim:0<limit)
 (hK:∀tl c wb limit (E:Array Int),0≤limit→limit<2^62→PermIn a' b' D E→K ([(0,.own 1 g 0 len),(1,.int .i64 a'),(2,.int .i64 b'),(3,.int .i64 limit),(8,.bool wb),(9,.bool wp),(10,.int .i64 (b'-a':Nat))]++tl) ⟨[Ap,.arr g 1 nn cl (vs (.int .i64) E.toList)],c⟩) (Ec:limit<2^62):
 vC (Ac tab) (Gt QC) ([(0,.own 1 g 0 len),(1,.int .i64 a'),(2,.int .i64 b'),(3,.int .i64 limit),(8,.bool wb),(9,.bool wp),(10,.int .i64 (b'-a':Nat))]++tl) ⟨[Ap,.arr g 1 nn cl (vs (.int .i64) D.toList)],c⟩ (Ju K Q):=by
 cases wb with
 |true=>(conv=>whnf);repeat' (first|exact hK _ _ _ _ _ (by omega) (by omega) (permIn_refl _ _ _)|(refine kA ?_;conv=>whnf)|(refine Br.mk (fun hc=>?_) fun hc=>?_<;>first|exact hc.elim|conv=>whnf)|(refine kB ?_))
 |false=>
  (conv=>whnf);repeat' (first  |(refine kA ?_;conv=>whnf)|(refine Br.mk (fun hc=>?_) fun hc=>?_<;>first|exact hc.elim|conv=>whnf)|(refine kB ?_))
  refine(AeU hD hb hab hs).mono ?_
  rintro _ _ ⟨c1,E,ob,rfl,rfl,q1⟩
  conv=>whnf
  apply Ai rfl
  (conv=>whnf);repeat' (first|exact hK _ _ _ _ _ (by omega) (by omega) q1|(refine kA ?_;conv=>whnf)|(refine Br.mk (fun hc=>?_) fun hc=>?_<;>first|exact hc.elim|conv=>whnf)|(refine kB ?_))
theorem Ads {a' b' c:Nat} {limit:Int} {wb wp:Bool} {D:Array Int} {K:Env→Ag→Prop} {Q:Ak→Env→Ag→Prop} (hs:len<2^61) (hab:a'≤b') (hb:b'≤len)
 (hK:∀tl,K ([(0,.own 1 g 0 len),(1,.int .i64 a'),(2,.int .i64 b'),(3,.int .i64 limit),(8,.bool wb),(9,.bool wp),(10,.int .i64 (b'-a':Nat))]++tl) ⟨[Ap,.arr g 1 nn cl (vs (.int .i64) D.toList)],c⟩):
 vC (Ac tab) (Gt (KL l100_0_b)) [(0,.own 1 g 0 len),(1,.int .i64 a'),(2,.int .i64 b'),(3,.int .i64 limit),(8,.bool wb),(9,.bool wp)] ⟨[Ap,.arr g 1 nn cl (vs (.int .i64) D.toList)],c⟩ (Ju K Q):=by
 rw[show ((b'-a':Nat):Int)=(b':Int)-a' by omega]at hK
 (conv=>whnf);repeat' (first|exact hK []|(refine kA ?_;conv=>whnf)|(refine Br.mk (fun hc=>?_) fun hc=>?_<;>first|exact hc.elim|conv=>whnf)|(refine kB ?_))
theorem Adt {tl:Env} (hs:len<2^61) {a' b' c:Nat} {limit:Int} {wb wp:Bool} {D:Array Int} {K:Env→Ag→Prop} {Q:Ak→Env→Ag→Prop} (hab:a'≤b') (hb:b'≤len) (hD:D.size=len)
 (hK:∀tl c,a'+12<b'→K ([(0,.own 1 g 0 len),(1,.int .i64 a'),(2,.int .i64 b'),(3,.int .i64 limit),(8,.bool wb),(9,.bool wp),(10,.int .i64 (b'-a':Nat))]++tl) ⟨[Ap,.arr g 1 nn cl (vs (.int .i64) D.toList)],c⟩)
 (hQ:∀c (E:Array Int) env,PermIn a' b' D E→SortedIn Ci a' b' E→Q .ret env ⟨[Ap,.arr g 1 nn cl (vs (.int .i64) E.toList)],c⟩):
 vC (Ac tab) (Gt (DK (KL l100_0_b))) ([(0,.own 1 g 0 len),(1,.int .i64 a'),(2,.int .i64 b'),(3,.int .i64 limit),(8,.bool wb),(9,.bool wp),(10,.int .i64 (b'-a':Nat))]++tl) ⟨[Ap,.arr g 1 nn cl (vs (.int .i64) D.toList)],c⟩ (Ju K Q):=by
 (conv=>whnf);repeat' (first|exact hK _ _ (by omega)|(refine kA ?_;conv=>whnf)|(refine Br.mk (fun hc=>?_) fun hc=>?_<;>first|exact hc.elim|conv=>whnf)|(refine kB ?_))
 refine(AeJ hD hb hs (by omega)).mono ?_
 rintro _ _ ⟨c1,rfl,rfl⟩
 conv=>whnf
 apply Ai rfl
 (conv=>whnf);repeat' (first  |(refine kA ?_;conv=>whnf)|(refine Br.mk (fun hc=>?_) fun hc=>?_<;>first|exact hc.elim|conv=>whnf)|(refine kB ?_))
 obtain⟨q1,q2⟩:=insertionSort_holds J8 D a' b' hab (by omega)
 exact hQ _ _ _ q1 q2
theorem Aa8 {tl:Env} (hs:len<2^61) {a' b' c:Nat} {limit:Int} {wb wp:Bool} {D:Array Int} {K:Env→Ag→Prop} {Q:Ak→Env→Ag→Prop} (hab:a'+12<b') (hb:b'≤len) (hD:D.size=len) (hlim:0≤limit)
 (hK:∀tl c,0<limit→K ([(0,.own 1 g 0 len),(1,.int .i64 a'),(2,.int .i64 b'),(3,.int .i64 limit),(8,.bool wb),(9,.bool wp),(10,.int .i64 (b'-a':Nat))]++tl) ⟨[Ap,.arr g 1 nn cl (vs (.int .i64) D.toList)],c⟩)
 (hQ:∀c (E:Array Int) env,PermIn a' b' D E→SortedIn Ci a' b' E→Q .ret env ⟨[Ap,.arr g 1 nn cl (vs (.int .i64) E.toList)],c⟩):
 vC (Ac tab) (Gt (DK (DK (KL l100_0_b)))) ([(0,.own 1 g 0 len),(1,.int .i64 a'),(2,.int .i64 b'),(3,.int .i64 limit),(8,.bool wb),(9,.bool wp),(10,.int .i64 (b'-a':Nat))]++tl) ⟨[Ap,.arr g 1 nn cl (vs (.int .i64) D.toList)],c⟩ (Ju K Q):=by
 (conv=>whnf);repeat' (first|exact hK _ _ (by omega)|(refine kA ?_;conv=>whnf)|(refine Br.mk (fun hc=>?_) fun hc=>?_<;>first|exact hc.elim|conv=>whnf)|(refine kB ?_))
 refine(AcV hD hb hs (by omega)).mono ?_
 rintro _ _ ⟨c1,rfl,rfl⟩
 conv=>whnf
 apply Ai rfl
 (conv=>whnf);repeat' (first  |(refine kA ?_;conv=>whnf)|(refine Br.mk (fun hc=>?_) fun hc=>?_<;>first|exact hc.elim|conv=>whnf)|(refine kB ?_))
 obtain⟨q1,q2⟩:=heapSort_holds J8 D a' b' (by omega) (by omega)
 exact hQ _ _ _ q1 q2
theorem Aa9 (hs:len<2^61) (ih:∀x y,y-x<b-a→Xg Ap g len nn cl x y) {a' b' c:Nat} {limit:Int} {wb wp:Bool} {D:Array Int} (hab:a'≤b') (hb:b'≤len) (hle:b'-a'≤b-a) (hlim:0≤limit) (Ec:limit<2^62) (hD:D.size=len) (hB:Below Ci a' b' D)
 (hR:∀R,PermIn a' b' D R→SortedIn Ci a' b' R→PermIn a b d R∧SortedIn Ci a b R):
 vC (Ac tab) (KL l100_0_b) [(0,.own 1 g 0 len),(1,.int .i64 a'),(2,.int .i64 b'),(3,.int .i64 limit),(8,.bool wb),(9,.bool wp)] ⟨[Ap,.arr g 1 nn cl (vs (.int .i64) D.toList)],c⟩ (Rt Ap g len nn cl a b d (b'-a')):=by
 have hret:∀c (E:Array Int) env,PermIn a b d E→SortedIn Ci a b E→Rt Ap g len nn cl a b d (b'-a') .ret env ⟨[Ap,.arr g 1 nn cl (vs (.int .i64) E.toList)],c⟩:=by
  intro c E env h1 h2
  unfold Rt
  conv=>whnf
  apply Ai rfl
  exact⟨_,E,rfl,rfl,h1,h2⟩
 refine EG (a:=Gt (KL l100_0_b)) (b:=DK (KL l100_0_b)) (Ads hs hab hb fun tl1=>?_)
 refine EG (a:=Gt (DK (KL l100_0_b))) (b:=DK (DK (KL l100_0_b))) (Adt hs hab hb hD (fun tl2 c2 h12=>?_) fun c E env h1 h2=>hret c E env (hR E h1 h2).1 (hR E h1 h2).2)
 refine EG (a:=Gt (DK (DK (KL l100_0_b)))) (b:=QC) (Aa8 hs h12 hb hD hlim (fun tl3 c3 hl0=>?_) fun c E env h1 h2=>hret c E env (hR E h1 h2).1 (hR E h1 h2).2)
 refine EG (a:=Gt QC) (b:=DK QC) (Adr hs h12 hb hD hl0 (fun tl4 c4 wb4 Aci E4 hl4 Yi p4=>?_) Ec)
 have hD4:E4.size=len:=by rw[p4.1,hD]
 refine EG (a:=Gt (DK QC)) (b:=DK (DK QC)) (Adq hs h12 hb hD4 fun tl5 c5 p h hp1 hp2=>?_)
 refine EG (a:=Gt (DK (DK QC))) (b:=Aa6) (Adp hs h12 hb hD4 hp1 hp2 fun tl6 c6 p6 h6 E6 q6 Yj Yk=>?_)
 have Yl:=permIn_trans _ _ _ _ _ p4 q6
 have hD6:E6.size=len:=by rw[Yl.1,hD]
 have hB6:=hB.perm (by omega) Yl
 refine EG (a:=Gt Aa6) (b:=Aa7) (Adn hs h12 hb hD6 hB6 (fun tl7 c7 E7 q7=>?_) fun c E env h1 h2=>hret c E env (hR E (permIn_trans _ _ _ _ _ Yl h1) h2).1 (hR E (permIn_trans _ _ _ _ _ Yl h1) h2).2)
 have p7:=permIn_trans _ _ _ _ _ Yl q7
 have hD7:E7.size=len:=by rw[p7.1,hD]
 have hB7:=hB.perm (by omega) p7
 have hR7:∀R,PermIn a' b' E7 R→SortedIn Ci a' b' R→PermIn a b d R∧SortedIn Ci a b R:=fun R h1 h2=>hR R (permIn_trans _ _ _ _ _ p7 h1) h2
 refine EG (a:=Gt Aa7) (b:=Afb) (Adm hs h12 hb hD7 hB7 Yj Yk (fun tl8=>Adl hs ih h12 hb hle hl4 Yi hD7 hB7 hR7 Yj Yk) fun c' mid E m1 m2 hE hBE fin=>?_)
 unfold Rt
 conv=>whnf
 exact again.mk ⟨_,by omega,mid,b',_,Aci,_,_,E,rfl,by omega,hb,by omega,hl4,Yi,hE,hBE,fun R h1 h2=>hR7 R (fin R h1 h2).1 (fin R h1 h2).2,rfl,rfl⟩
end
theorem Afe {Ap:Obj} {g len:Nat} {nn cl:Bool} (hs:len<2^61):∀n a b,b-a≤n→Xg Ap g len nn cl a b:=by
 intro n
 induction n using Nat.strongRecOn with
 |ind n IH=>
  intro a b hn
  have ih:∀x y,y-x<b-a→Xg Ap g len nn cl x y:=fun x y h=>IH (y-x) (by omega) x y (Nat.le_refl _)
  clear IH hn
  intro c limit d hd hb hab hlim Ec hB
  refine Ar rfl rfl ?_
  (conv=>whnf);repeat' (first  |(refine kA ?_;conv=>whnf)|(refine Br.mk (fun hc=>?_) fun hc=>?_<;>first|exact hc.elim|conv=>whnf)|(refine kB ?_))
  refine Ae (AbP Ap g len nn cl a b d) ?_ _ _ _ ⟨a,b,_,limit,true,true,d,rfl,hab,hb,Nat.le_refl _,hlim,Ec,hd,hB,fun R h1 h2=>⟨h1,h2⟩,rfl,rfl⟩
  rintro _ _ _ ⟨a',b',c,limit,wb,wp,D,rfl,hab',hb',hle,hlim,Ec,hD,hB',hR,rfl,rfl⟩
  refine⟨rfl,?_⟩
  exact Aa9 hs ih hab' hb' hle hlim Ec hD hB' hR
theorem Aba {Ap:Obj} {g len c:Nat} {nn cl:Bool} {L:List Int} (hl:L.length=len) (hs:len<2^61) {limit:Int} (h0:0≤limit) (h1:limit<2^62):
 AQ (Ac tab) 100 [.own 1 g 0 len,.int .i64 0,.int .i64 len,.int .i64 limit] ⟨[Ap,.arr g 1 nn cl (vs (.int .i64) L)],c⟩ fun out s'=>∃c' W,out=.ok (.CO [])∧s'=⟨[Ap,.arr g 1 nn cl (vs (.int .i64) W)],c'⟩∧W.Perm L∧W.Pairwise (fun x y=>Ci y x=false):=by
 have:=Afe (Ap:=Ap) (g:=g) (nn:=nn) (cl:=cl) hs len 0 len (by omega) c limit L.toArray (by simpa using hl) (Nat.le_refl _) (by omega) h0 h1 (Or.inl rfl)
 refine this.mono ?_
 rintro _ _ ⟨c',D,rfl,rfl,p1,p2⟩
 refine⟨c',D.toList,rfl,rfl,WG hl p1,QK (by rw[p1.1];simpa using hl) p2⟩
end
section
open Go.Sort
theorem clr {C:Aw} {es o g off n:Nat} {nn cl:Bool} {x:AO} {env:Env} {σ:List Obj} {c:Nat} {elems:List AV} (hx:x.val env=.own o g off n) (ho:nth σ o=some (.arr g es nn cl elems)) (h:off+n≤elems.length) (hn:n≠0):
 Ah C (.clear es x) env ⟨σ,c⟩=some (.ok .undef,⟨σ.set o (.arr g es nn cl (elems.take off)),c⟩):=by
 simp[Ah,hx,ho,h,hn]
section
variable {α:Type} [Inhabited α]
theorem nPn {f:α→AV} {d:Array α} {m:Nat} (i:Nat) (hm:m=i) (h:i<d.size):nth (vs f d.toList) m=some (f d[i]!):=by
 subst hm
 have:=nP (f:=f) (d:=d) (z:=(m:Int)) m rfl h
 exact this
open Classical in
noncomputable def N7 (d:Array α):Nat→List α
 |0=>[]
 |n+1=>if 0<n∧d[n]! =d[n-1]! then N7 d n else N7 d n++[d[n]!]
theorem JW {d:Array α} {n:Nat} (h0:0<n) (h:d[n]! =d[n-1]!):N7 d (n+1)=N7 d n:=if_pos ⟨h0,h⟩
theorem ML {d:Array α} {n:Nat} (h:0<n→¬d[n]! =d[n-1]!):N7 d (n+1)=N7 d n++[d[n]!]:=if_neg fun h1=>h h1.1 h1.2
theorem cpn_len (d:Array α):∀n,(N7 d n).length≤n
 |0=>by simp[N7]
 |n+1=>by
  have:=cpn_len d n
  unfold N7
  split
  ·omega
  ·simp;omega
theorem SS {d:Array α}:∀n,n≤d.size→(∀ j,0<j→j<n→¬d[j]! =d[j-1]!)→N7 d n=d.toList.take n
 |0,_,_=>by simp[N7]
 |n+1,hn,h=>by
  rw[ML (fun h0=>h n h0 (by omega)),SS n (by omega) fun j h0 hj=>h j h0 (by omega),List.take_succ_eq_append_getElem (by simp;omega)]
  congr 2
  rw[getElem!_pos d n (by omega)]
  simp
theorem OG {d:Array α} {x:α}:∀n,n≤d.size→(x∈N7 d n↔x∈d.toList.take n)
 |0,_=>by simp[N7]
 |n+1,hn=>by
  have e:d[n]! =d.toList[n]'(by simp;omega):=by rw[getElem!_pos d n (by omega)];simp
  rw[List.take_succ_eq_append_getElem (by simp;omega),List.mem_append,List.mem_singleton,←e]
  by_cases h:0<n∧d[n]! =d[n-1]!
  ·rw[JW h.1 h.2,OG n (by omega)]
   refine⟨Or.inl,fun h1=>h1.elim id ?_⟩
   rintro rfl
   rw[h.2,getElem!_pos d (n-1) (by omega)]
   rw[List.mem_take_iff_getElem]
   exact⟨n-1,by simp;omega,by simp⟩
  ·rw[ML (fun h0 h1=>h ⟨h0,h1⟩),List.mem_append,List.mem_singleton,OG n (by omega)]
theorem Zx {lt:α→α→Bool} (hS:SWO lt) (htot:∀x y,lt x y=false→lt y x=false→x=y) {d:Array α} (hs:SortedIn lt 0 d.size d):∀n,n≤d.size→(N7 d n).Pairwise (fun x y=>lt x y=true)
 |0,_=>by simp[N7]
 |n+1,hn=>by
  have ih:=Zx hS htot hs n (by omega)
  by_cases h:0<n∧d[n]! =d[n-1]!
  ·rw[JW h.1 h.2];exact ih
  ·rw[ML (fun h0 h1=>h ⟨h0,h1⟩)]
   refine List.pairwise_append.2 ⟨ih,List.pairwise_singleton ..,fun x hx y hy=>?_⟩
   obtain rfl:=List.mem_singleton.1 hy
   rw[OG n (by omega),List.mem_take_iff_getElem]at hx
   obtain⟨j,hj,rfl⟩:=hx
   simp only[Array.length_toList]at hj
   have ej:d.toList[j]'(by simp;omega)=d[j]!:=by rw[getElem!_pos d j (by omega)];simp
   rw[ej]
   cases hc:lt d[j]! d[n]! with
   |true=>rfl
   |false=>
    exfalso
    have h1:=hs j n (by omega) (by omega) (by omega)
    have e1:=htot _ _ hc h1
    refine h ⟨by omega,?_⟩
    rcases Nat.lt_or_ge j (n-1)with h2|h2
    ·have h3:=hs j (n-1) (by omega) h2 (by omega)
     have h4:=hs (n-1) n (by omega) (by omega) (by omega)
     rw[e1]at h3
     exact htot _ _ h4 h3
    ·obtain rfl:j=n-1:=by omega
     exact e1.symm
end
end
section
open Go.Sort
theorem Adi {Ap:Obj} {g len c:Nat} {nn cl:Bool} {L:List Int} (hl:L.length=len) (hs:len<2^61):
 AQ (Ac tab) 66 [.own 1 g 0 len] ⟨[Ap,.arr g 1 nn cl (vs (.int .i64) L)],c⟩ fun out s'=>∃c' W,out=.ok (.CO [])∧s'=⟨[Ap,.arr g 1 nn cl (vs (.int .i64) W)],c'⟩∧W.Perm L∧W.Pairwise (fun x y=>Ci y x=false):=by
 have hb:bitsLen len≤62:=(bitsLen_le_iff len 62).2 (by omega)
 refine Ar rfl rfl ?_
 (conv=>whnf);repeat' (first|(refine wrapN len rfl rfl (by show _<2^64;omega) ?_;conv=>whnf)|(refine Aa (OV (n:=len) (by omega)) ?_;rintro _ rfl;conv=>whnf)|(refine kA ?_;conv=>whnf)|(refine Br.mk (fun hc=>?_) fun hc=>?_<;>first|exact hc.elim|conv=>whnf)|(refine kB ?_))
 refine(Aba hl hs (by omega) (by omega)).mono ?_
 rintro _ _ ⟨c',W,rfl,rfl,h1,h2⟩
 conv=>whnf
 apply Ai rfl
 (conv=>whnf);repeat' (first  |(refine kA ?_;conv=>whnf)|(refine Br.mk (fun hc=>?_) fun hc=>?_<;>first|exact hc.elim|conv=>whnf)|(refine kB ?_))
 exact⟨_,W,rfl,rfl,h1,h2⟩
end
section
open Go.Sort
theorem Ae3 {Ap:Obj} {g len c:Nat} {nn cl:Bool} {d:Array Int} (hl:d.size=len) (hs:len<2^61):
 AQ (Ac tab) 67 [.own 1 g 0 len] ⟨[Ap,.arr g 1 nn cl (vs (.int .i64) d.toList)],c⟩ fun out s'=>∃c' T,out=.ok (.own 1 g 0 (N7 d len).length)∧s'=⟨[Ap,.arr g 1 nn cl (vs (.int .i64) (N7 d len++T))],c'⟩:=by
 have hend:(∀ j,0<j→j<len→¬d[j]! =d[j-1]!)→N7 d len=d.toList:=fun h=>by
  rw[SS len (by omega) h,List.take_of_length_le (by simp[hl])]
 refine Ar rfl rfl ?_
 (conv=>whnf);repeat' (first  |(refine kA ?_;conv=>whnf)|(refine Br.mk (fun hc=>?_) fun hc=>?_<;>first|exact hc.elim|conv=>whnf)|(refine kB ?_))
 ·have e:=hend (fun j h0 hj=>absurd h0 (by omega))
  rw[e,Array.length_toList,hl]
  exact⟨_,[],rfl,by rw[List.append_nil]⟩
 refine Ae (fun m env s=>∃(k c:Nat),m=len-k∧0<k∧(∀ j,0<j→j<k→¬d[j]! =d[j-1]!)∧env=[(0,.own 1 g 0 len),(3,.int .i64 k)]∧s=⟨[Ap,.arr g 1 nn cl (vs (.int .i64) d.toList)],c⟩) ?_ _ _ _ ⟨1,c,rfl,by omega,fun j h0 h1=>absurd h0 (by omega),rfl,rfl⟩
 rintro _ _ _ ⟨k,c,rfl,hk0,hk,rfl,rfl⟩
 refine⟨rfl,?_⟩
 (conv=>whnf);repeat' (first|((with_reducible show AY _ _ _);refine CG (k) ?_;conv=>whnf)|((with_reducible show AY _ _ _);refine CG (k-1) ?_;conv=>whnf)|(refine kA ?_;conv=>whnf)|(refine Br.mk (fun hc=>?_) fun hc=>?_<;>first|exact hc.elim|conv=>whnf)|(refine kB ?_))
 ·have h1:N7 d (k+1)=N7 d k:=JW hk0 (by assumption)
  have h2:N7 d k=d.toList.take k:=SS k (by omega) hk
  obtain⟨k,rfl⟩:∃k',k=k'+1:=⟨k-1,by omega⟩
  refine Ae (fun m env s=>∃(k2 c w:Nat) (E:Array Int),m=len-(k+1)-k2∧0<k2∧k+1+k2≤len∧E.size=len∧w=(N7 d (k+1+k2)).length∧w<k+1+k2∧E.toList.take w=N7 d (k+1+k2)∧(∀ j,k+1+k2≤j+1→j<len→E[j]! =d[j]!)∧env=[(0,.own 1 g 0 len),(3,.int .i64 w),(4,.own 1 g (k+1) (len-(k+1))),(5,.int .i64 k2)]∧s=⟨[Ap,.arr g 1 nn cl (vs (.int .i64) E.toList)],c⟩) ?_ _ _ _ ⟨1,_,k+1,d,rfl,by omega,by omega,hl,by rw[h1,h2];simp;omega,by omega,by rw[h1,h2],fun j _ _=>rfl,rfl,rfl⟩
  rintro _ _ _ ⟨k2,c,w,E,rfl,hk2,hkl,hE,hw,hwk,hW,hej,rfl,rfl⟩
  refine⟨rfl,?_⟩
  (conv=>whnf);repeat' (first|(apply AU;(· exact nPn (k+1+k2) (by omega) (by first|omega|(simp;omega)));conv=>whnf)|(apply AU;(· exact nPn (k+1+k2-1) (by omega) (by first|omega|(simp;omega)));conv=>whnf)|((with_reducible show AY _ _ _);refine CG (w) ?_;conv=>whnf)|((with_reducible show eqK _ _);refine EP Bl (w) ?_;conv=>whnf)|(refine kA ?_;conv=>whnf)|(refine Br.mk (fun hc=>?_) fun hc=>?_<;>first|exact hc.elim|conv=>whnf)|(refine kB ?_))
  ·have e1:=hej (k+1+k2) (by omega) (by omega)
   have e2:=hej (k+1+k2-1) (by omega) (by omega)
   rw[e1,e2]at hc
   exact again.mk ⟨_,by omega,k2+1,_,w,E,rfl,by omega,by omega,hE,by rw[hw,←JW (d:=d) (n:=k+1+k2) (by omega) hc];rfl,by omega,by rw[hW,←JW (d:=d) (n:=k+1+k2) (by omega) hc];rfl,fun j h1 h2=>hej j (by omega) h2,rfl,rfl⟩
  ·have e1:=hej (k+1+k2) (by omega) (by omega)
   have e2:=hej (k+1+k2-1) (by omega) (by omega)
   rw[e1,e2]at hc
   have e3:N7 d (k+1+(k2+1))=N7 d (k+1+k2)++[d[k+1+k2]!]:=ML fun _=>hc
   refine again.mk ⟨_,by omega,k2+1,_,w+1,E.setIfInBounds w E[k+1+k2]!,rfl,by omega,by omega,by simpa using hE,by rw[e3,List.length_append,←hw];rfl,by omega,?_,fun j h1 h2=>?_,rfl,rfl⟩
   ·rw[Array.toList_setIfInBounds,List.take_succ_eq_append_getElem (by simp;omega),e3,←hW,e1]
    simp[List.take_set_of_le]
   ·rw[← hej j (by omega) h2,getElem!_pos _ j (by simp;omega),getElem!_pos E j (by omega),Array.getElem_setIfInBounds_ne (by omega) (by omega)]
  ·have Agz:k+1+k2=len:=by omega
   rw[Agz]at hW hw hwk
   refine Ai (clr (n:=len-w) rfl rfl (by simp;omega) (by omega)) ?_
   have e4:List.take (Int.toNat (w:Int)) (vs (.int .i64) E.toList)=vs (.int .i64) (N7 d len++[]):=by
        rw[List.append_nil,←hW];simp[vs,List.map_take]
   (conv=>whnf);repeat' (first  |(refine kA ?_;conv=>whnf)|(refine Br.mk (fun hc=>?_) fun hc=>?_<;>first|exact hc.elim|conv=>whnf)|(refine kB ?_))
   refine⟨c,[],by rw[← hw];rfl,?_⟩
   rw[← e4]
   rfl
 ·exact again.mk ⟨_,by omega,k+1,_,rfl,by omega,fun j h0 hj=>by
   rcases Nat.lt_or_ge j k with h|h
   ·exact hk j h0 h
   ·obtain rfl:j=k:=by omega
    first|exact hc|assumption,rfl,rfl⟩
 ·have e:=hend (fun j h0 hj=>hk j h0 (by omega))
  rw[e,Array.length_toList,hl]
  exact⟨_,[],rfl,by rw[List.append_nil]⟩
end
section
open Go.Sort
abbrev vi (l:List Int):List AV:=vs (.int .i64) l
def Xp (g:GG) (tn:Bool) (types:List (List UInt8)) (dir:Int):AV:=.agg [.sl g.nn (vs GN.av g.nodes),.sl g.en (vs GE.av g.edges),.int .i64 g.GU,.int .i64 g.Jq,.sl tn (vs .str types),.int .i64 dir]
theorem Zy {W:List Int} {x:Int}:x∈N7 W.toArray W.length↔x∈W:=by
 rw[OG W.length (by simp)];simp
theorem AgA {W:List Int} (hs:W.Pairwise (fun x y=>Ci y x=false)):Inc (N7 W.toArray W.length):=by
 have ht:∀x y:Int,Ci x y=false→Ci y x=false→x=y:=fun x y h1 h2=>by
  have a:=Np.1 h1
  have b:=Np.1 h2
  omega
 refine List.Pairwise.imp (fun h=>LC.1 h) (Zx J8 ht (d:=W.toArray) ?_ W.length (by simp))
 intro i j h0 hij hj
 simp only[List.size_toArray]at hj
 rw[getElem!_pos _ j (by simpa using hj),getElem!_pos _ i (by simp;omega)]
 simp only[List.getElem_toArray]
 exact List.pairwise_iff_getElem.1 hs i j (by omega) hj hij
theorem TJ {f:Int→List Int} {l:List Int} {i:Nat} (h:i<l.length):(l.take (i+1)).flatMap f=(l.take i).flatMap f++f l[i]:=by
 rw[List.take_succ_eq_append_getElem h,List.flatMap_append];simp
theorem KA {α β:Type} {f:α→β} {l:List α} {j:Nat} (h:j<l.length):(l.take (j+1)).map f=(l.take j).map f++[f l[j]]:=by
 rw[List.take_succ_eq_append_getElem h,List.map_append];rfl
theorem Ae8 {g:GG} {types:List (List UInt8)} {tn:Bool} {dir:Int} {l:List Int} {nn:Bool} {i:Nat} {W:List Bc} {wn:Bool} {O:List Int} {go c n:Nat} {fo:Bool} (hn:n=O.length) (hO:O.length≤1000000) (hW:W.length≤1000) {Q:Ak→Env→Ag→Prop}
 (hQ:∀go' c' n' fo' tl,n'=(O++W.map (·.to)).length→Q (.exit 2) ([(2,.ref 0 0 0 0),(5,.own 1 go' 0 n'),(10,.sl nn (vi l)),(11,.int .i64 l.length),(12,.int .i64 i),(23,.sl wn (vs Bc.av W)),(24,.int .i64 W.length),(25,.int .i64 W.length)]++tl) ⟨[.arr 0 6 true true [Xp g tn types dir],.arr go' 1 fo' true (vi (O++W.map (·.to)))],c'⟩):
 Run (Ac tab) (.loop l34_0_h l34_0_b) [(2,.ref 0 0 0 0),(5,.own 1 go 0 n),(10,.sl nn (vi l)),(11,.int .i64 l.length),(12,.int .i64 i),(23,.sl wn (vs Bc.av W)),(24,.int .i64 W.length),(25,.int .i64 0)] ⟨[.arr 0 6 true true [Xp g tn types dir],.arr go 1 fo true (vi O)],c⟩ Q:=by
 refine Ae (fun m env s=>∃(j go c n:Nat) (fo:Bool) (R:List Int),m=W.length-j∧j≤W.length∧R=O++(W.take j).map (·.to)∧n=R.length∧env=[(2,.ref 0 0 0 0),(5,.own 1 go 0 n),(10,.sl nn (vi l)),(11,.int .i64 l.length),(12,.int .i64 i),(23,.sl wn (vs Bc.av W)),(24,.int .i64 W.length),(25,.int .i64 j)]∧s=⟨[.arr 0 6 true true [Xp g tn types dir],.arr go 1 fo true (vi R)],c⟩) ?_ _ _ _ ⟨0,go,c,n,fo,O,rfl,by omega,by simp,hn,rfl,rfl⟩
 rintro _ _ _ ⟨j,go,c,n,fo,R,rfl,hj,hR,hn,rfl,rfl⟩
 refine⟨rfl,?_⟩
 have hRl:R.length≤1001000:=by rw[hR];simp;omega
 by_cases hlt:j<W.length
 ·have hs:=KA (f:=fun a:Bc=>a.to) hlt
  (conv=>whnf);repeat' (first|(refine Kz (f:=.int .i64) (l:=R) (x:=(W[j]).to) Bl hn (by omega) ?_;conv=>whnf)|(refine kA ?_;conv=>whnf)|(refine Br.mk (fun hc=>?_) fun hc=>?_<;>first|exact hc.elim|conv=>whnf)|(refine kB ?_))
  all_goals first
   |(exfalso;omega)
   |exact again.mk ⟨_,by omega,j+1,_,_,_,_,R++[(W[j]).to],rfl,by omega,by rw[hs,hR,List.append_assoc],by simp,rfl,rfl⟩
 ·rw[List.take_of_length_le (by omega)]at hR
  obtain rfl:j=W.length:=by omega
  subst hR
  (conv=>whnf);repeat' (first  |(refine kA ?_;conv=>whnf)|(refine Br.mk (fun hc=>?_) fun hc=>?_<;>first|exact hc.elim|conv=>whnf)|(refine kB ?_))
  all_goals first
   |exact hQ _ _ _ _ _ hn
set_option maxHeartbeats 1000000 in
theorem Abu {g:GG} (hg:g.ok) (hE:g.edges.length≤100) {types:List (List UInt8)} {tn:Bool} (ht:types.length<2^63) {dir:Int} {l:List Int} {nn:Bool} (hl:l.length≤1000):
 Au (Ac tab) 34 [Xp g tn types dir,.sl nn (vi l)] (fun v=>∃b,v=.sl b (vi (nextL (CY types dir g.edges) l))):=by
 refine Af rfl rfl ?_
 (conv=>whnf);repeat' (first  |(refine kA ?_;conv=>whnf)|(refine Br.mk (fun hc=>?_) fun hc=>?_<;>first|exact hc.elim|conv=>whnf)|(refine kB ?_))
 refine Ae (fun m env s=>∃(i go c n:Nat) (fo:Bool) (O:List Int),m=l.length-i∧i≤l.length∧n=O.length∧O.length≤i*100∧(∀ x,x∈O↔x∈(l.take i).flatMap (CY types dir g.edges))∧env=[(2,.ref 0 0 0 0),(5,.own 1 go 0 n),(10,.sl nn (vi l)),(11,.int .i64 l.length),(12,.int .i64 i)]∧s=⟨[.arr 0 6 true true [Xp g tn types dir],.arr go 1 fo true (vi O)],c⟩) ?_ _ _ _ ⟨0,_,_,_,_,[],rfl,by omega,rfl,by simp,by simp,by first|rfl|(rw [← lV (f:=.int .i64) l];rfl),rfl⟩
 rintro _ _ _ ⟨i,go,c,n,fo,O,rfl,hi,hn,YI,hO,rfl,rfl⟩
 refine⟨rfl,?_⟩
 by_cases hlt:i<l.length
 ·have hs:=TJ (f:=CY types dir g.edges) hlt
  obtain⟨_,⟨wn,W,rfl,pW,sW⟩,hp⟩:=(AcH (g:=g) hg hE (types:=types) (tn:=tn) ht (id:=l[i]) (dir:=dir)).Oj
  have hWl:W.length≤100:=by
   have h1:=pW.length_eq
   have h2:=@Ii types l[i] dir g.edges
   omega
  have hb:i*100≤100000:=by omega
  (conv=>whnf);repeat' (first|(refine Aa hp ?_;rintro _ rfl;conv=>whnf)|(refine kA ?_;conv=>whnf)|(refine Br.mk (fun hc=>?_) fun hc=>?_<;>first|exact hc.elim|conv=>whnf)|(refine kB ?_))
  all_goals first
   |(exfalso;omega)
   |skip
  refine Ae8 (O:=O) hn (by omega) (by omega) fun go' c' n' fo' tl hn'=>?_
  (conv=>whnf);repeat' (first  |(refine kA ?_;conv=>whnf)|(refine Br.mk (fun hc=>?_) fun hc=>?_<;>first|exact hc.elim|conv=>whnf)|(refine kB ?_))
  all_goals first
   |(exfalso;omega)
   |(refine again.mk ⟨_,by omega,i+1,_,_,_,_,O++W.map (·.to),rfl,by omega,hn',by simp;omega,fun x=>?_,rfl,rfl⟩
     rw[hs,List.mem_append,List.mem_append,hO]
     have h1:x∈W.map (·.to)↔x∈CY types dir g.edges l[i]:=by unfold CY;exact(pW.map _).mem_iff
     rw[h1])
 ·rw[List.take_of_length_le (by omega)]at hO
  have hOb:O.length≤100000:=by omega
  clear YI
  (conv=>whnf);repeat' (first  |(refine kA ?_;conv=>whnf)|(refine Br.mk (fun hc=>?_) fun hc=>?_<;>first|exact hc.elim|conv=>whnf)|(refine kB ?_))
  refine(Adi (L:=O) hn.symm (by omega)).mono ?_
  rintro _ _ ⟨c1,W,rfl,rfl,p1,p2⟩
  have hw:=p1.length_eq
  conv=>whnf
  apply Ai rfl
  (conv=>whnf);repeat' (first  |(refine kA ?_;conv=>whnf)|(refine Br.mk (fun hc=>?_) fun hc=>?_<;>first|exact hc.elim|conv=>whnf)|(refine kB ?_))
  refine(Ae3 (d:=W.toArray) (by simp;omega) (by omega)).mono ?_
  rintro _ _ ⟨c3,T,rfl,rfl⟩
  rw[show n=W.length by omega]
  conv=>whnf
  apply Ai rfl
  (conv=>whnf);repeat' (first  |(refine kA ?_;conv=>whnf)|(refine Br.mk (fun hc=>?_) fun hc=>?_<;>first|exact hc.elim|conv=>whnf)|(refine kB ?_))
  refine⟨fo,?_⟩
  have e:nextL (CY types dir g.edges) l=N7 W.toArray W.length:=by
   refine(OL (AgA p2) fun x=>?_).symm
   rw[Zy,p1.mem_iff,hO]
  rw[e,Vz];simp
theorem IC {x y:Int} {l:List Int}:Gj x (y::l)=if x<y then x::y::l else if x=y then y::l else y::Gj x l:=rfl
theorem MN {n:Int}:∀{L R:List Int},(∀ y∈L,y<n)→Gj n (L++R)=L++Gj n R
 |[],R,_=>rfl
 |a::L,R,h=>by
  have:=h a (by simp)
  show Gj n (a::(L++R))=a::(L++Gj n R)
  rw[IC,if_neg (by omega),if_neg (by omega),MN fun y hy=>h y (by simp[hy])]
theorem Rn {n:Int}:∀{L R:List Int},(∃ z∈L,n≤z)→Gj n (L++R)=Gj n L++R
 |[],R,h=>by obtain⟨z,hz,_⟩:=h;cases hz
 |a::L,R,h=>by
  show Gj n (a::(L++R))=Gj n (a::L)++R
  rw[IC,IC]
  split
  ·rfl
  ·split
   ·rfl
   ·obtain⟨z,hz,hle⟩:=h
    rcases List.mem_cons.1 hz with rfl|hz
    ·omega
    ·rw[Rn ⟨z,hz,hle⟩];rfl
set_option maxHeartbeats 1000000 in
theorem Aal {l:List Int} {x:Int} {nn:Bool} (hl:l.length≤10000000) (hi:Inc l):Au (Ac tab) 64 [.sl nn (vi l),.int .i64 x] (fun v=>∃b,v=.sl b (vi (Gj x l))):=by
 refine Af rfl rfl ?_
 (conv=>whnf);repeat' (first  |(refine kA ?_;conv=>whnf)|(refine Br.mk (fun hc=>?_) fun hc=>?_<;>first|exact hc.elim|conv=>whnf)|(refine kB ?_))
 refine Ae (fun m env s=>∃(i go c n:Nat) (fo:Bool) (put:Bool) (O:List Int),m=l.length-i∧i≤l.length∧n=O.length∧O.length≤i+1∧(put=false→O=l.take i∧∀y∈l.take i,y<x)∧(put=true→O=Gj x (l.take i)∧∃z∈l.take i,x≤z)∧env=[(0,.sl nn (vi l)),(1,.int .i64 x),(5,.own 0 go 0 n),(6,.bool put),(7,.int .i64 i)]∧s=⟨[.arr go 1 fo true (vi O)],c⟩) ?_ _ _ _ ⟨0,_,_,_,_,false,[],rfl,by omega,rfl,by simp,fun _=>⟨by simp,by simp⟩,fun h=>(by cases h),rfl,rfl⟩
 rintro _ _ _ ⟨i,go,c,n,fo,put,O,rfl,hil,hn,YI,h0,h1,rfl,rfl⟩
 refine⟨rfl,?_⟩
 by_cases hlt:i<l.length
 ·have hts:=List.take_succ_eq_append_getElem hlt
  have hti:l[i]∈l.take (i+1):=by rw[hts];exact List.mem_append_right _ (by simp)
  cases put with
  |false=>
   obtain⟨hO,hy⟩:=h0 rfl
   clear h0 h1
   by_cases hle:x≤l[i]
   ·by_cases hne:l[i]=x
    ·have ei:Gj x (l.take (i+1))=O++[x]:=by rw[hts,MN hy,hO,IC,if_neg (by omega),if_pos hne.symm,hne]
     (conv=>whnf);repeat' (first|(refine Kz (f:=.int .i64) (l:=O) (x:=x) Bl hn (by omega) ?_;conv=>whnf)|(refine kA ?_;conv=>whnf)|(refine Br.mk (fun hc=>?_) fun hc=>?_<;>first|exact hc.elim|conv=>whnf)|(refine kB ?_))
     all_goals first
        |(exfalso;omega)
        |exact again.mk ⟨_,by omega,i+1,_,_,_,_,true,O++[x],rfl,by omega,by simp,by simp;omega,fun h=>(by cases h),fun _=>⟨ei.symm,l[i],hti,hle⟩,rfl,rfl⟩
    ·have ei:Gj x (l.take (i+1))=(O++[x])++[l[i]]:=by rw[hts,MN hy,hO,IC,if_pos (by omega)];simp
     (conv=>whnf);repeat' (first|(refine Kz (f:=.int .i64) (l:=O) (x:=x) Bl hn (by omega) ?_;conv=>whnf)|(refine Kz (f:=.int .i64) (l:=O++[x]) (x:=l[i]) Bl (by simp) (by simp;omega) ?_;conv=>whnf)|(refine kA ?_;conv=>whnf)|(refine Br.mk (fun hc=>?_) fun hc=>?_<;>first|exact hc.elim|conv=>whnf)|(refine kB ?_))
     all_goals first
        |(exfalso;omega)
        |exact again.mk ⟨_,by omega,i+1,_,_,_,_,true,(O++[x])++[l[i]],rfl,by omega,by simp,by have:=congrArg List.length hO;simp at this ⊢;omega,fun h=>(by cases h),fun _=>⟨ei.symm,l[i],hti,hle⟩,rfl,rfl⟩
   ·(conv=>whnf);repeat' (first|(refine Kz (f:=.int .i64) (l:=O) (x:=l[i]) Bl hn (by omega) ?_;conv=>whnf)|(refine kA ?_;conv=>whnf)|(refine Br.mk (fun hc=>?_) fun hc=>?_<;>first|exact hc.elim|conv=>whnf)|(refine kB ?_))
    all_goals first
     |(exfalso;omega)
     |exact again.mk ⟨_,by omega,i+1,_,_,_,_,false,O++[l[i]],rfl,by omega,by simp,by simp;omega,fun _=>⟨by rw[hts,hO],fun y hy'=>by rw[hts]at hy';rcases List.mem_append.1 hy' with k|k;exact hy y k;rw[List.mem_singleton.1 k];omega⟩,fun h=>(by cases h),rfl,rfl⟩
  |true=>
   obtain⟨hO,z,hz,hzx⟩:=h1 rfl
   clear h0 h1
   have hgt:l[i]≠x:=by
        have:z<l[i]:=by
         obtain⟨k,hk,rfl⟩:=List.getElem_of_mem hz
         rw[List.getElem_take]
         rw[List.length_take]at hk
         exact List.pairwise_iff_getElem.1 hi k i (by omega) hlt (by omega)
        omega
   have ei:Gj x (l.take (i+1))=O++[l[i]]:=by rw[hts,Rn ⟨z,hz,hzx⟩,hO]
   (conv=>whnf);repeat' (first|(refine Kz (f:=.int .i64) (l:=O) (x:=l[i]) Bl hn (by omega) ?_;conv=>whnf)|(refine kA ?_;conv=>whnf)|(refine Br.mk (fun hc=>?_) fun hc=>?_<;>first|exact hc.elim|conv=>whnf)|(refine kB ?_))
   all_goals first
        |(exfalso;omega)
        |exact absurd (by assumption) hgt
        |exact again.mk ⟨_,by omega,i+1,_,_,_,_,true,O++[l[i]],rfl,by omega,by simp,by simp;omega,fun h=>(by cases h),fun _=>⟨ei.symm,z,by rw[hts];exact List.mem_append_left _ hz,hzx⟩,rfl,rfl⟩
 ·rw[List.take_of_length_le (by omega)]at h0 h1
  cases put with
  |false=>
   obtain⟨hO,hy⟩:=h0 rfl
   clear h0 h1
   have ei:Gj x l=O++[x]:=by have:=MN (R:=[]) hy;rw[List.append_nil]at this;rw[this,hO];rfl
   (conv=>whnf);repeat' (first|(refine Kz (f:=.int .i64) (l:=O) (x:=x) Bl hn (by omega) ?_;conv=>whnf)|(refine kA ?_;conv=>whnf)|(refine Br.mk (fun hc=>?_) fun hc=>?_<;>first|exact hc.elim|conv=>whnf)|(refine kB ?_))
   all_goals first
     |(exfalso;omega)
     |exact⟨_,by rw[ei]⟩
  |true=>
   obtain⟨hO,_⟩:=h1 rfl
   clear h0 h1
   (conv=>whnf);repeat' (first  |(refine kA ?_;conv=>whnf)|(refine Br.mk (fun hc=>?_) fun hc=>?_<;>first|exact hc.elim|conv=>whnf)|(refine kB ?_))
   all_goals first
     |(exfalso;omega)
     |exact⟨_,by rw[← hO,hn,uV]⟩
end
end AI
end Go.Proofs.YthjeehjphekjmaaGreatDoor
