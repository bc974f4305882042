/- Sorting in place (Ordered[string]): the whole. Sorting (slices.Sort[[]string,string]), leaving out what repeats (slices.Compact[[]string,string]). Leaving out what repeats (slices.Compact[[]string,string]). The program's labels and types of a graph. Labels and types of a graph: the program's and the reference's. -/
import Derived.Test.YtceiccjppfapjaaGreatDoorVMaj
import Derived.Test.YtceiccjppfapjaaGreatDoorVMaf
import Derived.Test.YtceiccjppfapjaaGreatDoorVMai
import Derived.Test.YtceiccjppfapjaaGreatDoorBMaa
import Derived.Test.YtceiccjppfapjaaGreatDoorVMad
set_option linter.unusedVariables false
set_option maxRecDepth 4000
namespace Go.Proofs.YtceiccjppfapjaaGreatDoor
namespace AI
section
open Go.Sort
abbrev AdP (AX:Obj) (g len:Nat) (nn cl:Bool) (a b:Nat):Prop:=∀(c:Nat) (limit:Int) (d:Array (List UInt8)),d.size=len→b≤len→a≤b→0≤limit→limit<2^62→Below Df a b d→
 Au (Ad tab) 223 [.own 1 g 0 len,.int .i64 a,.int .i64 b,.int .i64 limit] ⟨[AX,.arr g 1 nn cl (vs .str d.toList)],c⟩ fun out s'=>∃c' D,out=.ok (.BH [])∧s'=⟨[AX,.arr g 1 nn cl (vs .str D.toList)],c'⟩∧PermIn a b d D∧SortedIn Df a b D
def Fa:AZ→AZ
 | .seq _ b=>b
 |c=>c
def Ju:AZ→AZ
 | .seq a _=>a
 |c=>c
def Px:AZ→AZ
 | .block _ a=>a
 |c=>c
noncomputable def Xi:AZ:=Fa (Fa (Fa (Px l223_0_b)))
noncomputable def Akg:AZ:=Fa (Fa (Fa Xi))
noncomputable def Akh:AZ:=Fa Akg
noncomputable def Aqp:AZ:=Fa Akh
abbrev AlF (AX:Obj) (g len:Nat) (nn cl:Bool) (a b:Nat) (d:Array (List UInt8)) (m:Nat) (env:Env) (s:Ap):Prop:=
 ∃(a' b' c:Nat) (limit:Int) (wb wp:Bool) (D:Array (List UInt8)),m=b'-a'∧a'≤b'∧b'≤len∧b'-a'≤b-a∧0≤limit∧limit<2^62∧D.size=len∧Below Df a' b' D∧(∀ R,PermIn a' b' D R→SortedIn Df a' b' R→PermIn a b d R∧SortedIn Df a b R)∧
  env=[(0,.own 1 g 0 len),(1,.int .i64 a'),(2,.int .i64 b'),(3,.int .i64 limit),(8,.bool wb),(9,.bool wp)]∧s=⟨[AX,.arr g 1 nn cl (vs .str D.toList)],c⟩
section
variable {AX:Obj} {g len:Nat} {nn cl:Bool} {a b:Nat} {d:Array (List UInt8)}
def Yh (AX:Obj) (g len:Nat) (nn cl:Bool) (a b:Nat) (d:Array (List UInt8)) (m:Nat):AA→Env→Ap→Prop:=
 Aex 1 (Ajo l223_0_h (again (AlF AX g len nn cl a b d) m) (Aex 0 (AeA a223 fun out s'=>∃c' D,out=.ok (.BH [])∧s'=⟨[AX,.arr g 1 nn cl (vs .str D.toList)],c'⟩∧PermIn a b d D∧SortedIn Df a b D)))
set_option maxHeartbeats 2000000 in
theorem Anw {tl:Env} (hs:len<2^61) (ih:∀x y,y-x<b-a→AdP AX g len nn cl x y) {a' b' c p:Nat} {limit:Int} {wb wp:Bool} {D:Array (List UInt8)} (hab:a'+12<b') (hb:b'≤len) (hle:b'-a'≤b-a) (hlim:0≤limit) (Gq:limit<2^62) (hD:D.size=len) (hB:Below Df a' b' D)
 (hR:∀R,PermIn a' b' D R→SortedIn Df a' b' R→PermIn a b d R∧SortedIn Df a b R) (hp1:a'≤p) (hp2:p<b'):
 vC (Ad tab) Aqp ([(0,.own 1 g 0 len),(1,.int .i64 a'),(2,.int .i64 b'),(3,.int .i64 limit),(8,.bool wb),(9,.bool wp),(10,.int .i64 (b'-a':Nat)),(11,.int .i64 p)]++tl) ⟨[AX,.arr g 1 nn cl (vs .str D.toList)],c⟩ (Yh AX g len nn cl a b d (b'-a')):=by
 unfold Yh
 (conv=>whnf);repeat' (first  |(refine kA ?_;conv=>whnf)|(refine Br.mk (fun hc=>?_) fun hc=>?_<;>first|exact hc.elim|conv=>whnf)|(refine kB ?_))
 refine(Aqq hD hb hp1 hp2 hs).mono ?_
 rintro _ _ ⟨c1,rfl,rfl⟩
 generalize hx:partition Df D a' b' p=R
 obtain⟨mid,ap,E⟩:=R
 obtain⟨m1,m2,hE,hBl,hBr,fl,fr⟩:=round_part IY (partition_holds Df) hp1 hp2 (by omega) hB hx
 dsimp only
 conv=>whnf
 apply Ag rfl
 (conv=>whnf);repeat' (first|(refine Nz (b'-a') 8 (by omega) (by omega) ?_;conv=>whnf)|(refine kA ?_;conv=>whnf)|(refine Br.mk (fun hc=>?_) fun hc=>?_<;>first|exact hc.elim|conv=>whnf)|(refine kB ?_))
 all_goals first
  |(refine (ih a' mid (by omega) _ limit E (by omega) (by omega) m1 hlim Gq hBl).mono ?_
    rintro _ _ ⟨c2,L,rfl,rfl,q1,q2⟩
    obtain⟨hBL,fin⟩:=fl L q1 q2
    conv=>whnf
    apply Ag rfl
    (conv=>whnf);repeat' (first  |(refine kA ?_;conv=>whnf)|(refine Br.mk (fun hc=>?_) fun hc=>?_<;>first|exact hc.elim|conv=>whnf)|(refine kB ?_))
    exact again.mk ⟨_,by omega,mid+1,b',_,limit,_,_,L,rfl,by omega,hb,by omega,hlim,Gq,by rw[q1.1,hE,hD],hBL,fun R h1 h2=>hR R (fin R h1 h2).1 (fin R h1 h2).2,rfl,rfl⟩)
  |(refine (ih (mid+1) b' (by omega) _ limit E (by omega) hb (by omega) hlim Gq hBr).mono ?_
    rintro _ _ ⟨c2,L,rfl,rfl,q1,q2⟩
    obtain⟨hBL,fin⟩:=fr L q1 q2
    conv=>whnf
    apply Ag rfl
    (conv=>whnf);repeat' (first  |(refine kA ?_;conv=>whnf)|(refine Br.mk (fun hc=>?_) fun hc=>?_<;>first|exact hc.elim|conv=>whnf)|(refine kB ?_))
    exact again.mk ⟨_,by omega,a',mid,_,limit,_,_,L,rfl,by omega,by omega,by omega,hlim,Gq,by rw[q1.1,hE,hD],hBL,fun R h1 h2=>hR R (fin R h1 h2).1 (fin R h1 h2).2,rfl,rfl⟩)
theorem Anx {tl:Env} (hs:len<2^61) {a' b' c p:Nat} {limit:Int} {wb wp:Bool} {D:Array (List UInt8)} {K:Env→Ap→Prop} {Q:AA→Env→Ap→Prop} (hab:a'+12<b') (hb:b'≤len) (hD:D.size=len) (hB:Below Df a' b' D) (hp1:a'≤p) (hp2:p<b')
 (hK:∀tl,K ([(0,.own 1 g 0 len),(1,.int .i64 a'),(2,.int .i64 b'),(3,.int .i64 limit),(8,.bool wb),(9,.bool wp),(10,.int .i64 (b'-a':Nat)),(11,.int .i64 p)]++tl) ⟨[AX,.arr g 1 nn cl (vs .str D.toList)],c⟩)
 (hQ:∀c' mid (E:Array (List UInt8)),a'<mid→mid≤b'→E.size=len→Below Df mid b' E→(∀ R,PermIn mid b' E R→SortedIn Df mid b' R→PermIn a' b' D R∧SortedIn Df a' b' R)→
   Q (.exit 1) [(0,.own 1 g 0 len),(1,.int .i64 mid),(2,.int .i64 b'),(3,.int .i64 limit),(8,.bool wb),(9,.bool wp)] ⟨[AX,.arr g 1 nn cl (vs .str E.toList)],c'⟩):
 vC (Ad tab) (Ju Akh) ([(0,.own 1 g 0 len),(1,.int .i64 a'),(2,.int .i64 b'),(3,.int .i64 limit),(8,.bool wb),(9,.bool wp),(10,.int .i64 (b'-a':Nat)),(11,.int .i64 p)]++tl) ⟨[AX,.arr g 1 nn cl (vs .str D.toList)],c⟩ (NI K Q):=by
 (conv=>whnf);repeat' (first|exact hK _|((with_reducible show Bq _ _ _);refine DT (a'-1) ?_;conv=>whnf)|((with_reducible show Bq _ _ _);refine DT (p) ?_;conv=>whnf)|(refine IE Iw (fun hc=>?_) (fun hc=>?_)<;>conv=>whnf)|(refine kA ?_;conv=>whnf)|(refine Br.mk (fun hc=>?_) fun hc=>?_<;>first|exact hc.elim|conv=>whnf)|(refine kB ?_))
 refine(Aqr hD hb hp1 hp2 hs).mono ?_
 rintro _ _ ⟨c1,rfl,rfl⟩
 generalize hx:partitionEqual Df D a' b' p=R
 obtain⟨mid,E⟩:=R
 obtain⟨m1,m2,hE,hBr,fin⟩:=round_eq IY (partitionEqual_holds Df) (by omega) hp1 hp2 (by omega) hB hc hx
 dsimp only
 conv=>whnf
 apply Ag rfl
 (conv=>whnf);repeat' (first  |(refine kA ?_;conv=>whnf)|(refine Br.mk (fun hc=>?_) fun hc=>?_<;>first|exact hc.elim|conv=>whnf)|(refine kB ?_))
 exact hQ _ mid E m1 m2 (by omega) hBr fin
theorem Anz {tl:Env} (hs:len<2^61) {a' b' c p:Nat} {limit h:Int} {wb wp:Bool} {D:Array (List UInt8)} {K:Env→Ap→Prop} {Q:AA→Env→Ap→Prop} (hab:a'+12<b') (hb:b'≤len) (hD:D.size=len) (hB:Below Df a' b' D)
 (hK:∀tl c (E:Array (List UInt8)),PermIn a' b' D E→K ([(0,.own 1 g 0 len),(1,.int .i64 a'),(2,.int .i64 b'),(3,.int .i64 limit),(8,.bool wb),(9,.bool wp),(10,.int .i64 (b'-a':Nat)),(11,.int .i64 p)]++tl) ⟨[AX,.arr g 1 nn cl (vs .str E.toList)],c⟩)
 (hQ:∀c (E:Array (List UInt8)) env,PermIn a' b' D E→SortedIn Df a' b' E→Q .ret env ⟨[AX,.arr g 1 nn cl (vs .str E.toList)],c⟩):
 vC (Ad tab) (Ju Akg) ([(0,.own 1 g 0 len),(1,.int .i64 a'),(2,.int .i64 b'),(3,.int .i64 limit),(8,.bool wb),(9,.bool wp),(10,.int .i64 (b'-a':Nat)),(11,.int .i64 p),(12,.int .i64 h)]++tl) ⟨[AX,.arr g 1 nn cl (vs .str D.toList)],c⟩ (NI K Q):=by
 (conv=>whnf);repeat' (first|exact hK _ _ _ (permIn_refl _ _ _)|(refine kA ?_;conv=>whnf)|(refine Br.mk (fun hc=>?_) fun hc=>?_<;>first|exact hc.elim|conv=>whnf)|(refine kB ?_))
 refine(AnA hD hb (by omega) hs).mono ?_
 rintro _ _ ⟨c1,rfl,rfl⟩
 have hp:=partialInsertionSort_holds IY D a' b' (by omega) (by omega) hB
 generalize partialInsertionSort Df D a' b'=R at hp
 obtain⟨E,r⟩:=R
 obtain⟨q1,q2⟩:=hp
 dsimp only at q1 q2 ⊢
 conv=>whnf
 apply Ag rfl
 cases r with
 |true=>
  (conv=>whnf);repeat' (first  |(refine kA ?_;conv=>whnf)|(refine Br.mk (fun hc=>?_) fun hc=>?_<;>first|exact hc.elim|conv=>whnf)|(refine kB ?_))
  exact hQ _ E _ q1 (q2 rfl)
 |false=>
  (conv=>whnf);repeat' (first|exact hK _ _ _ q1|(refine kA ?_;conv=>whnf)|(refine Br.mk (fun hc=>?_) fun hc=>?_<;>first|exact hc.elim|conv=>whnf)|(refine kB ?_))
theorem AnB {tl:Env} (hs:len<2^61) {a' b' c p:Nat} {limit h:Int} {wb wp:Bool} {D:Array (List UInt8)} {K:Env→Ap→Prop} {Q:AA→Env→Ap→Prop} (hab:a'+12<b') (hb:b'≤len) (hD:D.size=len) (hp1:a'≤p) (hp2:p<b')
 (hK:∀tl c (p:Nat) h (E:Array (List UInt8)),PermIn a' b' D E→a'≤p→p<b'→K ([(0,.own 1 g 0 len),(1,.int .i64 a'),(2,.int .i64 b'),(3,.int .i64 limit),(8,.bool wb),(9,.bool wp),(10,.int .i64 (b'-a':Nat)),(11,.int .i64 p),(12,.int .i64 h)]++tl) ⟨[AX,.arr g 1 nn cl (vs .str E.toList)],c⟩):
 vC (Ad tab) (Ju (Fa (Fa Xi))) ([(0,.own 1 g 0 len),(1,.int .i64 a'),(2,.int .i64 b'),(3,.int .i64 limit),(8,.bool wb),(9,.bool wp),(10,.int .i64 (b'-a':Nat)),(11,.int .i64 p),(12,.int .i64 h)]++tl) ⟨[AX,.arr g 1 nn cl (vs .str D.toList)],c⟩ (NI K Q):=by
 (conv=>whnf);repeat' (first|exact hK _ _ _ _ _ (permIn_refl _ _ _) hp1 hp2|(refine kA ?_;conv=>whnf)|(refine Br.mk (fun hc=>?_) fun hc=>?_<;>first|exact hc.elim|conv=>whnf)|(refine kB ?_))
 refine(ApE hD hb (by omega) hs).mono ?_
 rintro _ _ ⟨c1,E,rfl,rfl,q1⟩
 conv=>whnf
 apply Ag rfl
 have e:(b':Int)-1-((p:Int)-a')=((b'-1-(p-a'):Nat):Int):=by omega
 have hK':=fun tl=>hK tl c1 (b'-1-(p-a')) 1 E q1 (by omega) (by omega)
 rw[← e]at hK'
 (conv=>whnf);repeat' (first|exact hK' _|(refine kA ?_;conv=>whnf)|(refine Br.mk (fun hc=>?_) fun hc=>?_<;>first|exact hc.elim|conv=>whnf)|(refine kB ?_))
theorem AnC {tl:Env} (hs:len<2^61) {a' b' c:Nat} {limit:Int} {wb wp:Bool} {D:Array (List UInt8)} {K:Env→Ap→Prop} {Q:AA→Env→Ap→Prop} (hab:a'+12<b') (hb:b'≤len) (hD:D.size=len)
 (hK:∀tl c (p:Nat) h,a'≤p→p<b'→K ([(0,.own 1 g 0 len),(1,.int .i64 a'),(2,.int .i64 b'),(3,.int .i64 limit),(8,.bool wb),(9,.bool wp),(10,.int .i64 (b'-a':Nat)),(11,.int .i64 p),(12,.int .i64 h)]++tl) ⟨[AX,.arr g 1 nn cl (vs .str D.toList)],c⟩):
 vC (Ad tab) (Ju (Fa Xi)) ([(0,.own 1 g 0 len),(1,.int .i64 a'),(2,.int .i64 b'),(3,.int .i64 limit),(8,.bool wb),(9,.bool wp),(10,.int .i64 (b'-a':Nat))]++tl) ⟨[AX,.arr g 1 nn cl (vs .str D.toList)],c⟩ (NI K Q):=by
 (conv=>whnf);repeat' (first  |(refine kA ?_;conv=>whnf)|(refine Br.mk (fun hc=>?_) fun hc=>?_<;>first|exact hc.elim|conv=>whnf)|(refine kB ?_))
 refine(ApD hD hb hab hs).mono ?_
 rintro _ _ ⟨c1,p,h,ob,rfl,rfl,q1,q2⟩
 conv=>whnf
 apply Ag rfl
 (conv=>whnf);repeat' (first|exact hK _ _ _ _ q1 q2|(refine kA ?_;conv=>whnf)|(refine Br.mk (fun hc=>?_) fun hc=>?_<;>first|exact hc.elim|conv=>whnf)|(refine kB ?_))
theorem AnD {tl:Env} (hs:len<2^61) {a' b' c:Nat} {limit:Int} {wb wp:Bool} {D:Array (List UInt8)} {K:Env→Ap→Prop} {Q:AA→Env→Ap→Prop} (hab:a'+12<b') (hb:b'≤len) (hD:D.size=len) (hlim:0<limit)
 (hK:∀tl c wb limit (E:Array (List UInt8)),0≤limit→limit<2^62→PermIn a' b' D E→K ([(0,.own 1 g 0 len),(1,.int .i64 a'),(2,.int .i64 b'),(3,.int .i64 limit),(8,.bool wb),(9,.bool wp),(10,.int .i64 (b'-a':Nat))]++tl) ⟨[AX,.arr g 1 nn cl (vs .str E.toList)],c⟩) (Gq:limit<2^62):
 vC (Ad tab) (Ju Xi) ([(0,.own 1 g 0 len),(1,.int .i64 a'),(2,.int .i64 b'),(3,.int .i64 limit),(8,.bool wb),(9,.bool wp),(10,.int .i64 (b'-a':Nat))]++tl) ⟨[AX,.arr g 1 nn cl (vs .str D.toList)],c⟩ (NI K Q):=by
 cases wb with
 |true=>(conv=>whnf);repeat' (first|exact hK _ _ _ _ _ (by omega) (by omega) (permIn_refl _ _ _)|(refine kA ?_;conv=>whnf)|(refine Br.mk (fun hc=>?_) fun hc=>?_<;>first|exact hc.elim|conv=>whnf)|(refine kB ?_))
 |false=>
  (conv=>whnf);repeat' (first  |(refine kA ?_;conv=>whnf)|(refine Br.mk (fun hc=>?_) fun hc=>?_<;>first|exact hc.elim|conv=>whnf)|(refine kB ?_))
  refine(ApG hD hb hab hs).mono ?_
  rintro _ _ ⟨c1,E,ob,rfl,rfl,q1⟩
  conv=>whnf
  apply Ag rfl
  (conv=>whnf);repeat' (first|exact hK _ _ _ _ _ (by omega) (by omega) q1|(refine kA ?_;conv=>whnf)|(refine Br.mk (fun hc=>?_) fun hc=>?_<;>first|exact hc.elim|conv=>whnf)|(refine kB ?_))
theorem AnE {a' b' c:Nat} {limit:Int} {wb wp:Bool} {D:Array (List UInt8)} {K:Env→Ap→Prop} {Q:AA→Env→Ap→Prop} (hs:len<2^61) (hab:a'≤b') (hb:b'≤len)
 (hK:∀tl,K ([(0,.own 1 g 0 len),(1,.int .i64 a'),(2,.int .i64 b'),(3,.int .i64 limit),(8,.bool wb),(9,.bool wp),(10,.int .i64 (b'-a':Nat))]++tl) ⟨[AX,.arr g 1 nn cl (vs .str D.toList)],c⟩):
 vC (Ad tab) (Ju (Px l223_0_b)) [(0,.own 1 g 0 len),(1,.int .i64 a'),(2,.int .i64 b'),(3,.int .i64 limit),(8,.bool wb),(9,.bool wp)] ⟨[AX,.arr g 1 nn cl (vs .str D.toList)],c⟩ (NI K Q):=by
 rw[show ((b'-a':Nat):Int)=(b':Int)-a' by omega]at hK
 (conv=>whnf);repeat' (first|exact hK []|(refine kA ?_;conv=>whnf)|(refine Br.mk (fun hc=>?_) fun hc=>?_<;>first|exact hc.elim|conv=>whnf)|(refine kB ?_))
theorem AnF {tl:Env} (hs:len<2^61) {a' b' c:Nat} {limit:Int} {wb wp:Bool} {D:Array (List UInt8)} {K:Env→Ap→Prop} {Q:AA→Env→Ap→Prop} (hab:a'≤b') (hb:b'≤len) (hD:D.size=len)
 (hK:∀tl c,a'+12<b'→K ([(0,.own 1 g 0 len),(1,.int .i64 a'),(2,.int .i64 b'),(3,.int .i64 limit),(8,.bool wb),(9,.bool wp),(10,.int .i64 (b'-a':Nat))]++tl) ⟨[AX,.arr g 1 nn cl (vs .str D.toList)],c⟩)
 (hQ:∀c (E:Array (List UInt8)) env,PermIn a' b' D E→SortedIn Df a' b' E→Q .ret env ⟨[AX,.arr g 1 nn cl (vs .str E.toList)],c⟩):
 vC (Ad tab) (Ju (Fa (Px l223_0_b))) ([(0,.own 1 g 0 len),(1,.int .i64 a'),(2,.int .i64 b'),(3,.int .i64 limit),(8,.bool wb),(9,.bool wp),(10,.int .i64 (b'-a':Nat))]++tl) ⟨[AX,.arr g 1 nn cl (vs .str D.toList)],c⟩ (NI K Q):=by
 (conv=>whnf);repeat' (first|exact hK _ _ (by omega)|(refine kA ?_;conv=>whnf)|(refine Br.mk (fun hc=>?_) fun hc=>?_<;>first|exact hc.elim|conv=>whnf)|(refine kB ?_))
 refine(Ao1 hD hb hs (by omega)).mono ?_
 rintro _ _ ⟨c1,rfl,rfl⟩
 conv=>whnf
 apply Ag rfl
 (conv=>whnf);repeat' (first  |(refine kA ?_;conv=>whnf)|(refine Br.mk (fun hc=>?_) fun hc=>?_<;>first|exact hc.elim|conv=>whnf)|(refine kB ?_))
 obtain⟨q1,q2⟩:=insertionSort_holds IY D a' b' hab (by omega)
 exact hQ _ _ _ q1 q2
theorem Aki {tl:Env} (hs:len<2^61) {a' b' c:Nat} {limit:Int} {wb wp:Bool} {D:Array (List UInt8)} {K:Env→Ap→Prop} {Q:AA→Env→Ap→Prop} (hab:a'+12<b') (hb:b'≤len) (hD:D.size=len) (hlim:0≤limit)
 (hK:∀tl c,0<limit→K ([(0,.own 1 g 0 len),(1,.int .i64 a'),(2,.int .i64 b'),(3,.int .i64 limit),(8,.bool wb),(9,.bool wp),(10,.int .i64 (b'-a':Nat))]++tl) ⟨[AX,.arr g 1 nn cl (vs .str D.toList)],c⟩)
 (hQ:∀c (E:Array (List UInt8)) env,PermIn a' b' D E→SortedIn Df a' b' E→Q .ret env ⟨[AX,.arr g 1 nn cl (vs .str E.toList)],c⟩):
 vC (Ad tab) (Ju (Fa (Fa (Px l223_0_b)))) ([(0,.own 1 g 0 len),(1,.int .i64 a'),(2,.int .i64 b'),(3,.int .i64 limit),(8,.bool wb),(9,.bool wp),(10,.int .i64 (b'-a':Nat))]++tl) ⟨[AX,.arr g 1 nn cl (vs .str D.toList)],c⟩ (NI K Q):=by
 (conv=>whnf);repeat' (first|exact hK _ _ (by omega)|(refine kA ?_;conv=>whnf)|(refine Br.mk (fun hc=>?_) fun hc=>?_<;>first|exact hc.elim|conv=>whnf)|(refine kB ?_))
 refine(Al5 hD hb hs (by omega)).mono ?_
 rintro _ _ ⟨c1,rfl,rfl⟩
 conv=>whnf
 apply Ag rfl
 (conv=>whnf);repeat' (first  |(refine kA ?_;conv=>whnf)|(refine Br.mk (fun hc=>?_) fun hc=>?_<;>first|exact hc.elim|conv=>whnf)|(refine kB ?_))
 obtain⟨q1,q2⟩:=heapSort_holds IY D a' b' (by omega) (by omega)
 exact hQ _ _ _ q1 q2
theorem Akj (hs:len<2^61) (ih:∀x y,y-x<b-a→AdP AX g len nn cl x y) {a' b' c:Nat} {limit:Int} {wb wp:Bool} {D:Array (List UInt8)} (hab:a'≤b') (hb:b'≤len) (hle:b'-a'≤b-a) (hlim:0≤limit) (Gq:limit<2^62) (hD:D.size=len) (hB:Below Df a' b' D)
 (hR:∀R,PermIn a' b' D R→SortedIn Df a' b' R→PermIn a b d R∧SortedIn Df a b R):
 vC (Ad tab) (Px l223_0_b) [(0,.own 1 g 0 len),(1,.int .i64 a'),(2,.int .i64 b'),(3,.int .i64 limit),(8,.bool wb),(9,.bool wp)] ⟨[AX,.arr g 1 nn cl (vs .str D.toList)],c⟩ (Yh AX g len nn cl a b d (b'-a')):=by
 have hret:∀c (E:Array (List UInt8)) env,PermIn a b d E→SortedIn Df a b E→Yh AX g len nn cl a b d (b'-a') .ret env ⟨[AX,.arr g 1 nn cl (vs .str E.toList)],c⟩:=by
  intro c E env h1 h2
  unfold Yh
  conv=>whnf
  apply Ag rfl
  exact⟨_,E,rfl,rfl,h1,h2⟩
 refine GU (a:=Ju (Px l223_0_b)) (b:=Fa (Px l223_0_b)) (AnE hs hab hb fun tl1=>?_)
 refine GU (a:=Ju (Fa (Px l223_0_b))) (b:=Fa (Fa (Px l223_0_b))) (AnF hs hab hb hD (fun tl2 c2 h12=>?_) fun c E env h1 h2=>hret c E env (hR E h1 h2).1 (hR E h1 h2).2)
 refine GU (a:=Ju (Fa (Fa (Px l223_0_b)))) (b:=Xi) (Aki hs h12 hb hD hlim (fun tl3 c3 hl0=>?_) fun c E env h1 h2=>hret c E env (hR E h1 h2).1 (hR E h1 h2).2)
 refine GU (a:=Ju Xi) (b:=Fa Xi) (AnD hs h12 hb hD hl0 (fun tl4 c4 wb4 Anj E4 hl4 AhO p4=>?_) Gq)
 have hD4:E4.size=len:=by rw[p4.1,hD]
 refine GU (a:=Ju (Fa Xi)) (b:=Fa (Fa Xi)) (AnC hs h12 hb hD4 fun tl5 c5 p h hp1 hp2=>?_)
 refine GU (a:=Ju (Fa (Fa Xi))) (b:=Akg) (AnB hs h12 hb hD4 hp1 hp2 fun tl6 c6 p6 h6 E6 q6 AhP AhQ=>?_)
 have p6':=permIn_trans _ _ _ _ _ p4 q6
 have hD6:E6.size=len:=by rw[p6'.1,hD]
 have hB6:=hB.perm (by omega) p6'
 refine GU (a:=Ju Akg) (b:=Akh) (Anz hs h12 hb hD6 hB6 (fun tl7 c7 E7 q7=>?_) fun c E env h1 h2=>hret c E env (hR E (permIn_trans _ _ _ _ _ p6' h1) h2).1 (hR E (permIn_trans _ _ _ _ _ p6' h1) h2).2)
 have p7:=permIn_trans _ _ _ _ _ p6' q7
 have hD7:E7.size=len:=by rw[p7.1,hD]
 have hB7:=hB.perm (by omega) p7
 have hR7:∀R,PermIn a' b' E7 R→SortedIn Df a' b' R→PermIn a b d R∧SortedIn Df a b R:=fun R h1 h2=>hR R (permIn_trans _ _ _ _ _ p7 h1) h2
 refine GU (a:=Ju Akh) (b:=Aqp) (Anx hs h12 hb hD7 hB7 AhP AhQ (fun tl8=>Anw hs ih h12 hb hle hl4 AhO hD7 hB7 hR7 AhP AhQ) fun c' mid E m1 m2 hE hBE fin=>?_)
 unfold Yh
 conv=>whnf
 exact again.mk ⟨_,by omega,mid,b',_,Anj,_,_,E,rfl,by omega,hb,by omega,hl4,AhO,hE,hBE,fun R h1 h2=>hR7 R (fin R h1 h2).1 (fin R h1 h2).2,rfl,rfl⟩
end
theorem Aqs {AX:Obj} {g len:Nat} {nn cl:Bool} (hs:len<2^61):∀n a b,b-a≤n→AdP AX g len nn cl a b:=by
 intro n
 induction n using Nat.strongRecOn with
 |ind n IH=>
  intro a b hn
  have ih:∀x y,y-x<b-a→AdP AX g len nn cl x y:=fun x y h=>IH (y-x) (by omega) x y (Nat.le_refl _)
  clear IH hn
  intro c limit d hd hb hab hlim Gq hB
  refine Ah rfl rfl ?_
  (conv=>whnf);repeat' (first  |(refine kA ?_;conv=>whnf)|(refine Br.mk (fun hc=>?_) fun hc=>?_<;>first|exact hc.elim|conv=>whnf)|(refine kB ?_))
  refine Ae (AlF AX g len nn cl a b d) ?_ _ _ _ ⟨a,b,_,limit,true,true,d,rfl,hab,hb,Nat.le_refl _,hlim,Gq,hd,hB,fun R h1 h2=>⟨h1,h2⟩,rfl,rfl⟩
  rintro _ _ _ ⟨a',b',c,limit,wb,wp,D,rfl,hab',hb',hle,hlim,Gq,hD,hB',hR,rfl,rfl⟩
  refine⟨rfl,?_⟩
  exact Akj hs ih hab' hb' hle hlim Gq hD hB' hR
theorem AjB {AX:Obj} {g len c:Nat} {nn cl:Bool} {L:List (List UInt8)} (hl:L.length=len) (hs:len<2^61) {limit:Int} (h0:0≤limit) (h1:limit<2^62):
 Au (Ad tab) 223 [.own 1 g 0 len,.int .i64 0,.int .i64 len,.int .i64 limit] ⟨[AX,.arr g 1 nn cl (vs .str L)],c⟩ fun out s'=>∃c' W,out=.ok (.BH [])∧s'=⟨[AX,.arr g 1 nn cl (vs .str W)],c'⟩∧W.Perm L∧W.Pairwise (fun x y=>Df y x=false):=by
 have:=Aqs (AX:=AX) (g:=g) (nn:=nn) (cl:=cl) hs len 0 len (by omega) c limit L.toArray (by simpa using hl) (Nat.le_refl _) (by omega) h0 h1 (Or.inl rfl)
 refine this.mono ?_
 rintro _ _ ⟨c',D,rfl,rfl,p1,p2⟩
 refine⟨c',D.toList,rfl,rfl,AdB hl p1,X7 (by rw[p1.1];simpa using hl) p2⟩
end
section
open Go.Sort
theorem Ahc {AX:Obj} {g len c:Nat} {nn cl:Bool} {L:List (List UInt8)} (hl:L.length=len) (hs:len<2^61):
 Au (Ad tab) 132 [.own 1 g 0 len] ⟨[AX,.arr g 1 nn cl (vs .str L)],c⟩ fun out s'=>∃c' W,out=.ok (.BH [])∧s'=⟨[AX,.arr g 1 nn cl (vs .str W)],c'⟩∧W.Perm L∧W.Pairwise (fun x y=>Df y x=false):=by
 have hb:bitsLen len≤62:=(bitsLen_le_iff len 62).2 (by omega)
 refine Ah rfl rfl ?_
 (conv=>whnf);repeat' (first|(refine wrapN len rfl rfl (by show _<2^64;omega) ?_;conv=>whnf)|(refine Aa (U2 (n:=len) (by omega)) ?_;rintro _ rfl;conv=>whnf)|(refine kA ?_;conv=>whnf)|(refine Br.mk (fun hc=>?_) fun hc=>?_<;>first|exact hc.elim|conv=>whnf)|(refine kB ?_))
 refine(AjB hl hs (by omega) (by omega)).mono ?_
 rintro _ _ ⟨c',W,rfl,rfl,h1,h2⟩
 conv=>whnf
 apply Ag rfl
 (conv=>whnf);repeat' (first  |(refine kA ?_;conv=>whnf)|(refine Br.mk (fun hc=>?_) fun hc=>?_<;>first|exact hc.elim|conv=>whnf)|(refine kB ?_))
 exact⟨_,W,rfl,rfl,h1,h2⟩
end
section
open Go.Sort
theorem AlG {AX:Obj} {g len c:Nat} {nn cl:Bool} {d:Array (List UInt8)} (hl:d.size=len) (hs:len<2^61):
 Au (Ad tab) 133 [.own 1 g 0 len] ⟨[AX,.arr g 1 nn cl (vs .str d.toList)],c⟩ fun out s'=>∃c' T,out=.ok (.own 1 g 0 (Un d len).length)∧s'=⟨[AX,.arr g 1 nn cl (vs .str (Un d len++T))],c'⟩:=by
 have hend:(∀ j,0<j→j<len→¬d[j]! =d[j-1]!)→Un d len=d.toList:=fun h=>by
  rw[Zm len (by omega) h,List.take_of_length_le (by simp[hl])]
 refine Ah rfl rfl ?_
 (conv=>whnf);repeat' (first  |(refine kA ?_;conv=>whnf)|(refine Br.mk (fun hc=>?_) fun hc=>?_<;>first|exact hc.elim|conv=>whnf)|(refine kB ?_))
 ·have e:=hend (fun j h0 hj=>absurd h0 (by omega))
  rw[e,Array.length_toList,hl]
  exact⟨_,[],rfl,by rw[List.append_nil]⟩
 refine Ae (fun m env s=>∃(k c:Nat),m=len-k∧0<k∧(∀ j,0<j→j<k→¬d[j]! =d[j-1]!)∧env=[(0,.own 1 g 0 len),(3,.int .i64 k)]∧s=⟨[AX,.arr g 1 nn cl (vs .str d.toList)],c⟩) ?_ _ _ _ ⟨1,c,rfl,by omega,fun j h0 h1=>absurd h0 (by omega),rfl,rfl⟩
 rintro _ _ _ ⟨k,c,rfl,hk0,hk,rfl,rfl⟩
 refine⟨rfl,?_⟩
 (conv=>whnf);repeat' (first|((with_reducible show Bq _ _ _);refine DT (k) ?_;conv=>whnf)|((with_reducible show Bq _ _ _);refine DT (k-1) ?_;conv=>whnf)|(refine kA ?_;conv=>whnf)|(refine Br.mk (fun hc=>?_) fun hc=>?_<;>first|exact hc.elim|conv=>whnf)|(refine kB ?_))
 ·have h1:Un d (k+1)=Un d k:=OA hk0 (by assumption)
  have h2:Un d k=d.toList.take k:=Zm k (by omega) hk
  obtain⟨k,rfl⟩:∃k',k=k'+1:=⟨k-1,by omega⟩
  refine Ae (fun m env s=>∃(k2 c w:Nat) (E:Array (List UInt8)),m=len-(k+1)-k2∧0<k2∧k+1+k2≤len∧E.size=len∧w=(Un d (k+1+k2)).length∧w<k+1+k2∧E.toList.take w=Un d (k+1+k2)∧(∀ j,k+1+k2≤j+1→j<len→E[j]! =d[j]!)∧env=[(0,.own 1 g 0 len),(3,.int .i64 w),(4,.own 1 g (k+1) (len-(k+1))),(5,.int .i64 k2)]∧s=⟨[AX,.arr g 1 nn cl (vs .str E.toList)],c⟩) ?_ _ _ _ ⟨1,_,k+1,d,rfl,by omega,by omega,hl,by rw[h1,h2];simp;omega,by omega,by rw[h1,h2],fun j _ _=>rfl,rfl,rfl⟩
  rintro _ _ _ ⟨k2,c,w,E,rfl,hk2,hkl,hE,hw,hwk,hW,hej,rfl,rfl⟩
  refine⟨rfl,?_⟩
  (conv=>whnf);repeat' (first|(apply Aq;(· exact nPn (k+1+k2) (by omega) (by first|omega|(simp;omega)));conv=>whnf)|(apply Aq;(· exact nPn (k+1+k2-1) (by omega) (by first|omega|(simp;omega)));conv=>whnf)|((with_reducible show Bq _ _ _);refine DT (w) ?_;conv=>whnf)|((with_reducible show eqK _ _);refine Hl cellsS (w) ?_;conv=>whnf)|(refine kA ?_;conv=>whnf)|(refine Br.mk (fun hc=>?_) fun hc=>?_<;>first|exact hc.elim|conv=>whnf)|(refine kB ?_))
  ·have e1:=hej (k+1+k2) (by omega) (by omega)
   have e2:=hej (k+1+k2-1) (by omega) (by omega)
   rw[e1,e2]at hc
   exact again.mk ⟨_,by omega,k2+1,_,w,E,rfl,by omega,by omega,hE,by rw[hw,←OA (d:=d) (n:=k+1+k2) (by omega) hc];rfl,by omega,by rw[hW,←OA (d:=d) (n:=k+1+k2) (by omega) hc];rfl,fun j h1 h2=>hej j (by omega) h2,rfl,rfl⟩
  ·have e1:=hej (k+1+k2) (by omega) (by omega)
   have e2:=hej (k+1+k2-1) (by omega) (by omega)
   rw[e1,e2]at hc
   have e3:Un d (k+1+(k2+1))=Un d (k+1+k2)++[d[k+1+k2]!]:=Rw fun _=>hc
   refine again.mk ⟨_,by omega,k2+1,_,w+1,E.setIfInBounds w E[k+1+k2]!,rfl,by omega,by omega,by simpa using hE,by rw[e3,List.length_append,←hw];rfl,by omega,?_,fun j h1 h2=>?_,rfl,rfl⟩
   ·rw[Array.toList_setIfInBounds,List.take_succ_eq_append_getElem (by simp;omega),e3,←hW,e1]
    simp[List.take_set_of_le]
   ·rw[← hej j (by omega) h2,getElem!_pos _ j (by simp;omega),getElem!_pos E j (by omega),Array.getElem_setIfInBounds_ne (by omega) (by omega)]
  ·have Ats:k+1+k2=len:=by omega
   rw[Ats]at hW hw hwk
   refine Ag (clr (n:=len-w) rfl rfl (by simp;omega) (by omega)) ?_
   have e4:List.take (Int.toNat (w:Int)) (vs .str E.toList)=vs .str (Un d len++[]):=by
        rw[List.append_nil,←hW];simp[vs,List.map_take]
   (conv=>whnf);repeat' (first  |(refine kA ?_;conv=>whnf)|(refine Br.mk (fun hc=>?_) fun hc=>?_<;>first|exact hc.elim|conv=>whnf)|(refine kB ?_))
   refine⟨c,[],by rw[← hw];rfl,?_⟩
   rw[← e4]
   rfl
 ·exact again.mk ⟨_,by omega,k+1,_,rfl,by omega,fun j h0 hj=>by
   rcases Nat.lt_or_ge j k with h|h
   ·exact hk j h0 h
   ·obtain rfl:j=k:=by omega
    first|exact hc|assumption,rfl,rfl⟩
 ·have e:=hend (fun j h0 hj=>hk j h0 (by omega))
  rw[e,Array.length_toList,hl]
  exact⟨_,[],rfl,by rw[List.append_nil]⟩
end
section
open Go.Sort
theorem AdT (x y:List UInt8) (h1:Df x y=false) (h2:Df y x=false):x=y:=by
 rw[Afv]at h1 h2
 simp only[ltStr,decide_eq_false_iff_not]at h1 h2
 exact List.le_antisymm (List.not_lt.1 h2) (List.not_lt.1 h1)
def Jp (l:List (List UInt8)):Prop:=l.Pairwise (fun x y=>Df x y=true)
theorem WM {a b:List (List UInt8)} (ha:Jp a) (hb:Jp b) (h:∀x,x∈a↔x∈b):a=b:=Py IY ha hb h
theorem AdU {W:List (List UInt8)} (hs:W.Pairwise (fun x y=>Df y x=false)):Jp (Un W.toArray W.length)∧∀x,x∈Un W.toArray W.length↔x∈W:=by
 have h:SortedIn Df 0 W.toArray.size W.toArray:=by
  intro i j _ hij hj
  have hj':j<W.length:=by simpa using hj
  have:=List.pairwise_iff_getElem.1 hs i j (by omega) hj' hij
  rw[getElem!_pos W.toArray j (by simpa using hj'),getElem!_pos W.toArray i (by simp;omega)]
  simpa using this
 refine⟨Ah0 IY AdT h W.length (by simp),fun x=>?_⟩
 rw[UN W.length (by simp)]
 simp
def Dv (N:List GN):List (List UInt8):=N.flatMap GN.labels
def typesOf (E:List GE):List (List UInt8):=E.map GE.ty
theorem Pz {N:List GN} {i:Nat} (h:i<N.length):Dv (N.take (i+1))=Dv (N.take i)++(N[i]).labels:=by
 rw[Dv,List.take_succ_eq_append_getElem h,List.flatMap_append];simp[Dv]
theorem Rf {N:List GE} {i:Nat} (h:i<N.length):typesOf (N.take (i+1))=typesOf (N.take i)++[(N[i]).ty]:=by
 rw[typesOf,List.take_succ_eq_append_getElem h,List.map_append];simp[typesOf]
theorem Akq {g:GG} (hg:g.ok) (hN:g.nodes.length≤2000) (hL:∀n∈g.nodes,n.labels.length≤2000):Af (Ad tab) 70 [g.av] (fun v=>∃nn R,v=.sl nn (vs .str R)∧Jp R∧∀x,x∈R↔x∈Dv g.nodes):=by
 refine Ac rfl rfl ?_
 (conv=>whnf);repeat' (first  |(refine kA ?_;conv=>whnf)|(refine Br.mk (fun hc=>?_) fun hc=>?_<;>first|exact hc.elim|conv=>whnf)|(refine kB ?_))
 refine Ae (fun m env s=>∃(i c n go:Nat) (nn:Bool) (L:List (List UInt8)),m=g.nodes.length-i∧i≤g.nodes.length∧L=Dv (g.nodes.take i)∧n=L.length∧n≤2000*i∧env=[(3,.own 1 go 0 n),(7,.sl g.nn (vs GN.av g.nodes)),(8,.int .i64 g.nodes.length),(9,.int .i64 i)]∧s=⟨[.arr 0 4 true true [g.av],.arr go 1 nn true (vs .str L)],c⟩) ?_ _ _ _ ⟨0,_,0,_,_,[],rfl,by omega,rfl,rfl,by omega,by rw[← lV (f:=GN.av) g.nodes];rfl,rfl⟩
 rintro _ _ _ ⟨i,c,n,go,nn,L,rfl,hin,hL0,hn,hni,rfl,rfl⟩
 refine⟨rfl,?_⟩
 have hat:∀h:i<g.nodes.length,(g.nodes[i]).labels.length≤2000:=fun h=>hL _ (List.getElem_mem _)
 (conv=>whnf);repeat' (first|(refine Ae2 rfl cellsS hn (by have:=hat (by omega);omega) (fun b=>?_);conv=>whnf)|(refine kA ?_;conv=>whnf)|(refine Br.mk (fun hc=>?_) fun hc=>?_<;>first|exact hc.elim|conv=>whnf)|(refine kB ?_))
 ·have:=hat (by omega)
  exact again.mk ⟨_,by omega,i+1,_,_,_,_,_,rfl,by omega,by rw[hL0,←Pz (by omega)],by simp,by omega,rfl,rfl⟩
 ·rw[CJ hc]at hL0
  refine(Ahc (L:=L) hn.symm (by omega)).mono ?_
  rintro _ _ ⟨c1,W,rfl,rfl,h1,h2⟩
  obtain⟨q1,q2⟩:=AdU h2
  have hw:=h1.length_eq
  conv=>whnf
  apply Ag rfl
  (conv=>whnf);repeat' (first  |(refine kA ?_;conv=>whnf)|(refine Br.mk (fun hc=>?_) fun hc=>?_<;>first|exact hc.elim|conv=>whnf)|(refine kB ?_))
  refine(AlG (d:=W.toArray) (by simp;omega) (by omega)).mono ?_
  rintro _ _ ⟨c2,T,rfl,rfl⟩
  rw[show n=W.length by omega]
  conv=>whnf
  apply Ag rfl
  (conv=>whnf);repeat' (first  |(refine kA ?_;conv=>whnf)|(refine Br.mk (fun hc=>?_) fun hc=>?_<;>first|exact hc.elim|conv=>whnf)|(refine kB ?_))
  refine⟨nn,_,by rw[Ji];simp,q1,fun x=>?_⟩
  rw[q2,h1.mem_iff,hL0]
theorem Ah1 {g:GG} (hg:g.ok) (hN:g.edges.length≤4000):Af (Ad tab) 72 [g.av] (fun v=>∃nn R,v=.sl nn (vs .str R)∧Jp R∧∀x,x∈R↔x∈typesOf g.edges):=by
 refine Ac rfl rfl ?_
 (conv=>whnf);repeat' (first  |(refine kA ?_;conv=>whnf)|(refine Br.mk (fun hc=>?_) fun hc=>?_<;>first|exact hc.elim|conv=>whnf)|(refine kB ?_))
 refine Ae (fun m env s=>∃(i c n go:Nat) (nn:Bool) (L:List (List UInt8)),m=g.edges.length-i∧i≤g.edges.length∧L=typesOf (g.edges.take i)∧n=L.length∧n≤i∧env=[(3,.own 1 go 0 n),(7,.sl g.en (vs GE.av g.edges)),(8,.int .i64 g.edges.length),(9,.int .i64 i)]∧s=⟨[.arr 0 4 true true [g.av],.arr go 1 nn true (vs .str L)],c⟩) ?_ _ _ _ ⟨0,_,0,_,_,[],rfl,by omega,rfl,rfl,by omega,by rw[← lV (f:=GE.av) g.edges];rfl,rfl⟩
 rintro _ _ _ ⟨i,c,n,go,nn,L,rfl,hin,hL0,hn,hni,rfl,rfl⟩
 refine⟨rfl,?_⟩
 (conv=>whnf);repeat' (first|(refine Dc (x:=(g.edges[i]).ty) cellsS hn (by omega) ?_;conv=>whnf)|(refine kA ?_;conv=>whnf)|(refine Br.mk (fun hc=>?_) fun hc=>?_<;>first|exact hc.elim|conv=>whnf)|(refine kB ?_))
 ·exact again.mk ⟨_,by omega,i+1,_,_,_,_,_,rfl,by omega,by rw[hL0,←Rf (by omega)],by simp,by omega,rfl,rfl⟩
 ·rw[CJ hc]at hL0
  refine(Ahc (L:=L) hn.symm (by omega)).mono ?_
  rintro _ _ ⟨c1,W,rfl,rfl,h1,h2⟩
  obtain⟨q1,q2⟩:=AdU h2
  have hw:=h1.length_eq
  conv=>whnf
  apply Ag rfl
  (conv=>whnf);repeat' (first  |(refine kA ?_;conv=>whnf)|(refine Br.mk (fun hc=>?_) fun hc=>?_<;>first|exact hc.elim|conv=>whnf)|(refine kB ?_))
  refine(AlG (d:=W.toArray) (by simp;omega) (by omega)).mono ?_
  rintro _ _ ⟨c2,T,rfl,rfl⟩
  rw[show n=W.length by omega]
  conv=>whnf
  apply Ag rfl
  (conv=>whnf);repeat' (first  |(refine kA ?_;conv=>whnf)|(refine Br.mk (fun hc=>?_) fun hc=>?_<;>first|exact hc.elim|conv=>whnf)|(refine kB ?_))
  refine⟨nn,_,by rw[Ji];simp,q1,fun x=>?_⟩
  rw[q2,h1.mem_iff,hL0]
theorem FQ {α:Type} [DecidableEq α]:∀{R W:List α},R.Nodup→(∀ x∈R,x∈W)→R.length≤W.length
 |[],W,_,_=>by simp
 |a::R,W,h,hs=>by
  obtain⟨h1,h2⟩:=List.nodup_cons.1 h
  have ha:a∈W:=hs a (by simp)
  have:=FQ (R:=R) (W:=W.erase a) h2 fun x hx=>(List.mem_erase_of_ne (by rintro rfl;exact h1 hx)).2 (hs x (by simp[hx]))
  rw[List.length_erase_of_mem ha]at this
  have:=List.length_pos_of_mem ha
  simp;omega
end
section
open Go.Sort
theorem Aky {l:List (List UInt8)} (hi:Jp l) {i:Nat} (h:i<l.length) {x:List UInt8} (h1:Df l[i] x=false):∀y∈l.drop i,Df y x=false:=by
 intro y hy
 obtain⟨j,hj,rfl⟩:=List.getElem_of_mem hy
 rw[List.getElem_drop]
 rcases Nat.eq_zero_or_pos j with rfl|h0
 ·exact h1
 ·have hij:i+j<l.length:=by simp at hj;omega
  have:=List.pairwise_iff_getElem.1 hi i (i+j) h hij (by omega)
  cases hc:Df l[i+j] x with
  |false=>rfl
  |true=>rw[IY.trans _ _ _ this hc]at h1;cases h1
theorem Akz {l:List (List UInt8)} (hi:Jp l) {i:Nat} (h:i<l.length) {x:List UInt8} (h1:Df l[i] x=false) (hne:¬l[i]=x):∀y∈l.drop i,Df x y=true:=by
 intro y hy
 cases hc:Df x y with
 |true=>rfl
 |false=>
  exfalso
  have e:=AdT _ _ hc (Aky hi h h1 y hy)
  subst e
  obtain⟨j,hj,e⟩:=List.getElem_of_mem hy
  rw[List.getElem_drop]at e
  rcases Nat.eq_zero_or_pos j with rfl|h0
  ·exact hne e
  ·have hij:i+j<l.length:=by simp at hj;omega
   have:=List.pairwise_iff_getElem.1 hi i (i+j) h hij (by omega)
   rw[e,h1]at this;cases this
theorem Ad2 {l:List (List UInt8)} {x:List UInt8} {i:Nat} (hi:Jp l) (h1:∀y∈l.take i,Df y x=true) (h2:∀y∈l.drop i,Df x y=true):Jp (l.take i++x::l.drop i):=by
 refine List.pairwise_append.2 ⟨List.Pairwise.sublist (List.take_sublist _ _) hi,List.pairwise_cons.2 ⟨h2,List.Pairwise.sublist (List.drop_sublist _ _) hi⟩,fun a ha b hb=>?_⟩
 rcases List.mem_cons.1 hb with rfl|hb
 ·exact h1 a ha
 ·exact IY.trans _ _ _ (h1 a ha) (h2 b hb)
theorem Aa9 {l:List (List UInt8)} {x y:List UInt8} {i:Nat}:y∈l.take i++x::l.drop i↔y=x∨y∈l:=by
 conv=>rhs;rw[← List.take_append_drop i l]
 simp only[List.mem_append,List.mem_cons]
 constructor
 ·rintro(h|h|h)
  ·exact Or.inr (Or.inl h)
  ·exact Or.inl h
  ·exact Or.inr (Or.inr h)
 ·rintro(h|h|h)
  ·exact Or.inr (Or.inl h)
  ·exact Or.inl h
  ·exact Or.inr (Or.inr h)
theorem AqJ {l:List (List UInt8)} {x:List UInt8} {nn:Bool} (hi:Jp l) (hl:l.length≤5000000):Af (Ad tab) 123 [.sl nn (vs .str l),.str x] (fun v=>∃nn' R,v=.sl nn' (vs .str R)∧Jp R∧R.length≤l.length+1∧∀y,y∈R↔y=x∨y∈l):=by
 refine Ac rfl rfl ?_
 (conv=>whnf);repeat' (first  |(refine kA ?_;conv=>whnf)|(refine Br.mk (fun hc=>?_) fun hc=>?_<;>first|exact hc.elim|conv=>whnf)|(refine kB ?_))
 refine Ae (fun m env s=>∃(i:Nat) (c:Nat),m=l.length-i∧i≤l.length∧(∀ y∈l.take i,Df y x=true)∧env=[(0,.sl nn (vs .str l)),(1,.str x),(5,.own 0 0 0 0),(6,.int .i64 i)]∧s=⟨[.arr 0 1 false true (vs AV.str ([]:List (List UInt8)))],c⟩) ?_ _ _ _ ⟨0,_,rfl,by omega,by simp,rfl,rfl⟩
 rintro _ _ _ ⟨i,c,rfl,hil,hx,rfl,rfl⟩
 refine⟨rfl,?_⟩
 have e0:(l.drop 0).take (Int.toNat (i:Int)-0)=l.take i:=by simp
 have e1:∀n,n+i=l.length→(l.drop (Int.toNat (i:Int))).take n=l.drop i:=fun n hn=>by
  rw[Int.toNat_natCast];exact List.take_of_length_le (by simp;omega)
 have hpre:Jp (l.take i):=List.Pairwise.sublist (List.take_sublist _ _) hi
 have AvM:Jp (l.drop i):=List.Pairwise.sublist (List.drop_sublist _ _) hi
 have htd:=List.take_append_drop i l
 have htl:(l.take i).length=i:=by simp;omega
 have hdl:(l.drop i).length+i=l.length:=by simp;omega
 by_cases hlt:i<l.length
 ·have hd:l.drop i=l[i]::l.drop (i+1):=List.drop_eq_getElem_cons hlt
  (conv=>whnf);repeat' (first|((with_reducible show need _ _);refine need.mk ⟨by (try rw[lV]);omega,by(try rw[lV]);omega⟩ ?_;conv=>whnf)|((with_reducible show need _ _);refine need.mk (Dh cellsS _) ?_;conv=>whnf)|((with_reducible show eqK _ _);apply BG;(· exact Ji _ _ _);conv=>whnf)|(refine Ae2 (l':=l.take i) (by rw[e0]) cellsS rfl (by simp only[List.length_nil];omega) (fun b=>?_);conv=>whnf)|(refine Dc (x:=x) cellsS (by simp) (by simp only[List.length_append,List.length_nil,htl];omega) ?_;conv=>whnf)|(refine Ae2 (l':=l.drop i) (by rw[e1 _ (by rw[lV];omega)]) cellsS (by simp) (by simp only[List.length_append,List.length_nil,List.length_cons,htl];omega) (fun b=>?_);conv=>whnf)|(refine kA ?_;conv=>whnf)|(refine Br.mk (fun hc=>?_) fun hc=>?_<;>first|exact hc.elim|conv=>whnf)|(refine kB ?_))
  ·exact again.mk ⟨_,by omega,i+1,_,rfl,by omega,Bz hlt hx hc,rfl,rfl⟩
  ·refine⟨b,l,?_,hi,by omega,fun y=>⟨Or.inr,fun h=>h.elim (fun e=>?_) id⟩⟩
   ·rw[List.drop_zero,List.nil_append,htd,List.take_of_length_le (by simp;omega)]
   ·rw[e,←hc];exact List.getElem_mem hlt
  ·refine⟨b,l.take i++x::l.drop i,?_,Ad2 hi hx (Akz hi hlt (by assumption) hc),?_,fun y=>Aa9⟩
   ·rw[List.drop_zero,List.nil_append,List.append_assoc,List.cons_append,List.nil_append,List.take_of_length_le (by simp;omega)]
   ·simp only[List.length_append,List.length_cons];omega
 ·have hil:i=l.length:=by omega
  have hd:l.drop i=[]:=List.drop_eq_nil_of_le (by omega)
  (conv=>whnf);repeat' (first|((with_reducible show need _ _);refine need.mk ⟨by (try rw[lV]);omega,by(try rw[lV]);omega⟩ ?_;conv=>whnf)|((with_reducible show need _ _);refine need.mk (Dh cellsS _) ?_;conv=>whnf)|((with_reducible show eqK _ _);apply BG;(· exact Ji _ _ _);conv=>whnf)|(refine Ae2 (l':=l.take i) (by rw[e0]) cellsS rfl (by simp only[List.length_nil];omega) (fun b=>?_);conv=>whnf)|(refine Dc (x:=x) cellsS (by simp) (by simp only[List.length_append,List.length_nil,htl];omega) ?_;conv=>whnf)|(refine Ae2 (l':=l.drop i) (by rw[e1 _ (by rw[lV];omega)]) cellsS (by simp) (by simp only[List.length_append,List.length_nil,List.length_cons,htl];omega) (fun b=>?_);conv=>whnf)|(refine kA ?_;conv=>whnf)|(refine Br.mk (fun hc=>?_) fun hc=>?_<;>first|exact hc.elim|conv=>whnf)|(refine kB ?_))
  refine⟨b,l.take i++x::l.drop i,?_,Ad2 hi hx (by rw[hd];simp),?_,fun y=>Aa9⟩
  ·rw[List.drop_zero,List.nil_append,List.append_assoc,List.cons_append,List.nil_append,List.take_of_length_le (by simp;omega)]
  ·simp only[List.length_append,List.length_cons];omega
theorem Ah8 {g:GG} (hg:g.ok) (hN:g.edges.length≤4000):Af (Ad tab) 62 [g.av] (fun v=>∃nn R,v=.sl nn (vs .str R)∧Jp R∧(∀ x,x∈R↔x∈typesOf g.edges)∧R.length≤4000000):=by
 refine Ac rfl rfl ?_
 (conv=>whnf);repeat' (first  |(refine kA ?_;conv=>whnf)|(refine Br.mk (fun hc=>?_) fun hc=>?_<;>first|exact hc.elim|conv=>whnf)|(refine kB ?_))
 refine Ae (fun m env s=>∃(i:Nat) (nn:Bool) (L:List (List UInt8)),m=g.edges.length-i∧i≤g.edges.length∧Jp L∧L.length≤i∧(∀ x,x∈L↔x∈typesOf (g.edges.take i))∧env=[(1,.ref 0 0 0 0),(3,.sl nn (vs .str L)),(4,.int .i64 i)]∧s=⟨[.arr 0 4 true true [g.av]],1⟩) ?_ _ _ _ ⟨0,false,[],rfl,by omega,List.Pairwise.nil,by simp,by simp[typesOf],rfl,rfl⟩
 rintro _ _ _ ⟨i,nn,L,rfl,hin,hI,hLi,hm,rfl,rfl⟩
 refine⟨rfl,?_⟩
 (conv=>whnf);repeat' (first|(refine Aa (AqJ (l:=L) (x:=(g.edges[i]).ty) hI (by omega)) ?_;rintro _ ⟨n2,R,rfl,r1,r2,r3⟩;conv=>whnf)|(refine kA ?_;conv=>whnf)|(refine Br.mk (fun hc=>?_) fun hc=>?_<;>first|exact hc.elim|conv=>whnf)|(refine kB ?_))
 ·refine again.mk ⟨_,by omega,i+1,_,R,rfl,by omega,r1,by omega,fun x=>?_,rfl,rfl⟩
  rw[r3,hm,Rf (by omega),List.mem_append,List.mem_singleton,or_comm]
 ·rw[CJ hc]at hm
  exact⟨nn,L,rfl,hI,hm,by omega⟩
theorem Aku {g:GG} (hg:g.ok) (hN:g.nodes.length≤2000) (hL:∀n∈g.nodes,n.labels.length≤2000):Af (Ad tab) 60 [g.av] (fun v=>∃nn R,v=.sl nn (vs .str R)∧Jp R∧(∀ x,x∈R↔x∈Dv g.nodes)∧R.length≤4000000):=by
 refine Ac rfl rfl ?_
 (conv=>whnf);repeat' (first  |(refine kA ?_;conv=>whnf)|(refine Br.mk (fun hc=>?_) fun hc=>?_<;>first|exact hc.elim|conv=>whnf)|(refine kB ?_))
 refine Ae (fun m env s=>∃(i:Nat) (nn:Bool) (L:List (List UInt8)),m=g.nodes.length-i∧i≤g.nodes.length∧Jp L∧L.length≤2000*i∧(∀ x,x∈L↔x∈Dv (g.nodes.take i))∧env=[(1,.ref 0 0 0 0),(3,.sl nn (vs .str L)),(4,.int .i64 i)]∧s=⟨[.arr 0 4 true true [g.av]],1⟩) ?_ _ _ _ ⟨0,false,[],rfl,by omega,List.Pairwise.nil,by simp,by simp[Dv],rfl,rfl⟩
 rintro _ _ _ ⟨i,nn,L,rfl,hin,hI,hLi,hm,rfl,rfl⟩
 refine⟨rfl,?_⟩
 by_cases hi:i<g.nodes.length
 ·have hat:=hL _ (List.getElem_mem hi)
  (conv=>whnf);repeat' (first  |(refine kA ?_;conv=>whnf)|(refine Br.mk (fun hc=>?_) fun hc=>?_<;>first|exact hc.elim|conv=>whnf)|(refine kB ?_))
  refine Ae (fun m env s=>∃(j:Nat) (nn:Bool) (R:List (List UInt8)),m=(g.nodes[i]).labels.length-j∧j≤(g.nodes[i]).labels.length∧Jp R∧R.length≤2000*i+j∧(∀ x,x∈R↔x∈L∨x∈(g.nodes[i]).labels.take j)∧env=[(1,.ref 0 0 0 0),(3,.sl nn (vs .str R)),(4,.int .i64 i),(5,.int .i64 j)]∧s=⟨[.arr 0 4 true true [g.av]],1⟩) ?_ _ _ _ ⟨0,nn,L,rfl,by omega,hI,by omega,by simp,rfl,rfl⟩
  rintro _ _ _ ⟨j,nn2,R,rfl,hjn,hR,hRj,hm2,rfl,rfl⟩
  refine⟨rfl,?_⟩
  by_cases hj:j<(g.nodes[i]).labels.length
  ·(conv=>whnf);repeat' (first|(refine Aa (AqJ (l:=R) (x:=(g.nodes[i]).labels[j]) hR (by omega)) ?_;rintro _ ⟨n2,R2,rfl,r1,r2,r3⟩;conv=>whnf)|(refine kA ?_;conv=>whnf)|(refine Br.mk (fun hc=>?_) fun hc=>?_<;>first|exact hc.elim|conv=>whnf)|(refine kB ?_))
   refine again.mk ⟨_,by omega,j+1,_,R2,rfl,by omega,r1,by omega,fun x=>?_,rfl,rfl⟩
   rw[r3,hm2,List.take_succ_eq_append_getElem hj,List.mem_append,List.mem_singleton]
   constructor
   ·rintro(h|h|h)
    ·exact Or.inr (Or.inr h)
    ·exact Or.inl h
    ·exact Or.inr (Or.inl h)
   ·rintro(h|h|h)
    ·exact Or.inr (Or.inl h)
    ·exact Or.inr (Or.inr h)
    ·exact Or.inl h
  ·(conv=>whnf);repeat' (first  |(refine kA ?_;conv=>whnf)|(refine Br.mk (fun hc=>?_) fun hc=>?_<;>first|exact hc.elim|conv=>whnf)|(refine kB ?_))
   rw[List.take_of_length_le (by omega)]at hm2
   refine again.mk ⟨_,by omega,i+1,_,R,rfl,by omega,hR,by omega,fun x=>?_,rfl,rfl⟩
   rw[hm2,hm,Pz hi,List.mem_append]
 ·rw[List.take_of_length_le (by omega)]at hm
  (conv=>whnf);repeat' (first  |(refine kA ?_;conv=>whnf)|(refine Br.mk (fun hc=>?_) fun hc=>?_<;>first|exact hc.elim|conv=>whnf)|(refine kB ?_))
  exact⟨nn,L,rfl,hI,hm,by omega⟩
end
end AI
end Go.Proofs.YtceiccjppfapjaaGreatDoor
