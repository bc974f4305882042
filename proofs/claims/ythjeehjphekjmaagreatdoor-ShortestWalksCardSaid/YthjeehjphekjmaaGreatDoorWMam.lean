/- Sorting in place (CmpFunc[graphdb/api.Pair]): the whole. Sorting (slices.SortFunc[[]graphdb/api.Pair,graphdb/api.Pair]), leaving out what repeats (none). Distances of all nodes: the program's, an entry of a greater table. -/
import Derived.Test.YthjeehjphekjmaaGreatDoorWMal
import Derived.Test.YthjeehjphekjmaaGreatDoorWPxC
import Derived.Test.YthjeehjphekjmaaGreatDoorWMaf
import Derived.Test.YthjeehjphekjmaaGreatDoorWMak
import Derived.Test.YthjeehjphekjmaaGreatDoorWNd
import Derived.Test.YthjeehjphekjmaaGreatDoorWMah
set_option linter.unusedVariables false
set_option maxRecDepth 4000
namespace Go.Proofs.YthjeehjphekjmaaGreatDoor
namespace AI
section
open Go.Sort
abbrev WE (Ap Bv BD BK:Obj) (g len:Nat) (nn cl:Bool) (a b:Nat):Prop:=∀(c:Nat) (limit:Int) (d:Array (Int×Int)),d.size=len→b≤len→a≤b→0≤limit→limit<2^62→Below Cj a b d→
 AQ (Ac tab) 68 [.own 3 g 0 len,.int .i64 a,.int .i64 b,.int .i64 limit,.fn 36 []] ⟨[Ap,Bv,BD,.arr g 2 nn cl (vs Az d.toList),BK],c⟩ fun out s'=>∃c' D,out=.ok (.CO [])∧s'=⟨[Ap,Bv,BD,.arr g 2 nn cl (vs Az D.toList),BK],c'⟩∧PermIn a b d D∧SortedIn Cj a b D
def Dy:Am→Am
 | .seq _ b=>b
 |c=>c
def Gp:Am→Am
 | .seq a _=>a
 |c=>c
def KD:Am→Am
 | .block _ a=>a
 |c=>c
noncomputable def Qr:Am:=Dy (Dy (Dy (KD l68_0_b)))
noncomputable def Aas:Am:=Dy (Dy (Dy Qr))
noncomputable def Aat:Am:=Dy Aas
noncomputable def AdS:Am:=Dy Aat
abbrev Abx (Ap Bv BD BK:Obj) (g len:Nat) (nn cl:Bool) (a b:Nat) (d:Array (Int×Int)) (m:Nat) (env:Env) (s:Ag):Prop:=
 ∃(a' b' c:Nat) (limit:Int) (wb wp:Bool) (D:Array (Int×Int)),m=b'-a'∧a'≤b'∧b'≤len∧b'-a'≤b-a∧0≤limit∧limit<2^62∧D.size=len∧Below Cj a' b' D∧(∀ R,PermIn a' b' D R→SortedIn Cj a' b' R→PermIn a b d R∧SortedIn Cj a b R)∧
  env=[(0,.own 3 g 0 len),(1,.int .i64 a'),(2,.int .i64 b'),(3,.int .i64 limit),(4,.fn 36 []),(10,.bool wb),(11,.bool wp)]∧s=⟨[Ap,Bv,BD,.arr g 2 nn cl (vs Az D.toList),BK],c⟩
section
variable {Ap Bv BD BK:Obj} {g len:Nat} {nn cl:Bool} {a b:Nat} {d:Array (Int×Int)}
def QJ (Ap Bv BD BK:Obj) (g len:Nat) (nn cl:Bool) (a b:Nat) (d:Array (Int×Int)) (m:Nat):Ak→Env→Ag→Prop:=
 Va 1 (Aau l68_0_h (again (Abx Ap Bv BD BK g len nn cl a b d) m) (Va 0 (Nq a68 fun out s'=>∃c' D,out=.ok (.CO [])∧s'=⟨[Ap,Bv,BD,.arr g 2 nn cl (vs Az D.toList),BK],c'⟩∧PermIn a b d D∧SortedIn Cj a b D)))
set_option maxHeartbeats 2000000 in
theorem Ab7 {tl:Env} (hs:len<2^61) (ih:∀x y,y-x<b-a→WE Ap Bv BD BK g len nn cl x y) {a' b' c p:Nat} {limit:Int} {wb wp:Bool} {D:Array (Int×Int)} (hab:a'+12<b') (hb:b'≤len) (hle:b'-a'≤b-a) (hlim:0≤limit) (Ec:limit<2^62) (hD:D.size=len) (hB:Below Cj a' b' D)
 (hR:∀R,PermIn a' b' D R→SortedIn Cj a' b' R→PermIn a b d R∧SortedIn Cj a b R) (hp1:a'≤p) (hp2:p<b'):
 vC (Ac tab) AdS ([(0,.own 3 g 0 len),(1,.int .i64 a'),(2,.int .i64 b'),(3,.int .i64 limit),(4,.fn 36 []),(10,.bool wb),(11,.bool wp),(12,.int .i64 (b'-a':Nat)),(13,.int .i64 p)]++tl) ⟨[Ap,Bv,BD,.arr g 2 nn cl (vs Az D.toList),BK],c⟩ (QJ Ap Bv BD BK g len nn cl a b d (b'-a')):=by
 unfold QJ
 (conv=>whnf);repeat' (first  |(refine kA ?_;conv=>whnf)|(refine Br.mk (fun hc=>?_) fun hc=>?_<;>first|exact hc.elim|conv=>whnf)|(refine kB ?_))
 refine(AdT hD hb hp1 hp2 hs).mono ?_
 rintro _ _ ⟨c1,rfl,rfl⟩
 generalize hx:partition Cj D a' b' p=R
 obtain⟨mid,ap,E⟩:=R
 obtain⟨m1,m2,hE,hBl,hBr,fl,fr⟩:=round_part LD (partition_holds Cj) hp1 hp2 (by omega) hB hx
 dsimp only
 conv=>whnf
 apply Ai rfl
 (conv=>whnf);repeat' (first|(refine Jr (b'-a') 8 (by omega) (by omega) ?_;conv=>whnf)|(refine kA ?_;conv=>whnf)|(refine Br.mk (fun hc=>?_) fun hc=>?_<;>first|exact hc.elim|conv=>whnf)|(refine kB ?_))
 all_goals first
  |(refine (ih a' mid (by omega) _ limit E (by omega) (by omega) m1 hlim Ec hBl).mono ?_
    rintro _ _ ⟨c2,L,rfl,rfl,q1,q2⟩
    obtain⟨hBL,fin⟩:=fl L q1 q2
    conv=>whnf
    apply Ai rfl
    (conv=>whnf);repeat' (first  |(refine kA ?_;conv=>whnf)|(refine Br.mk (fun hc=>?_) fun hc=>?_<;>first|exact hc.elim|conv=>whnf)|(refine kB ?_))
    exact again.mk ⟨_,by omega,mid+1,b',_,limit,_,_,L,rfl,by omega,hb,by omega,hlim,Ec,by rw[q1.1,hE,hD],hBL,fun R h1 h2=>hR R (fin R h1 h2).1 (fin R h1 h2).2,rfl,rfl⟩)
  |(refine (ih (mid+1) b' (by omega) _ limit E (by omega) hb (by omega) hlim Ec hBr).mono ?_
    rintro _ _ ⟨c2,L,rfl,rfl,q1,q2⟩
    obtain⟨hBL,fin⟩:=fr L q1 q2
    conv=>whnf
    apply Ai rfl
    (conv=>whnf);repeat' (first  |(refine kA ?_;conv=>whnf)|(refine Br.mk (fun hc=>?_) fun hc=>?_<;>first|exact hc.elim|conv=>whnf)|(refine kB ?_))
    exact again.mk ⟨_,by omega,a',mid,_,limit,_,_,L,rfl,by omega,by omega,by omega,hlim,Ec,by rw[q1.1,hE,hD],hBL,fun R h1 h2=>hR R (fin R h1 h2).1 (fin R h1 h2).2,rfl,rfl⟩)
theorem Ab8 {tl:Env} (hs:len<2^61) {a' b' c p:Nat} {limit:Int} {wb wp:Bool} {D:Array (Int×Int)} {K:Env→Ag→Prop} {Q:Ak→Env→Ag→Prop} (hab:a'+12<b') (hb:b'≤len) (hD:D.size=len) (hB:Below Cj a' b' D) (hp1:a'≤p) (hp2:p<b')
 (hK:∀tl,K ([(0,.own 3 g 0 len),(1,.int .i64 a'),(2,.int .i64 b'),(3,.int .i64 limit),(4,.fn 36 []),(10,.bool wb),(11,.bool wp),(12,.int .i64 (b'-a':Nat)),(13,.int .i64 p)]++tl) ⟨[Ap,Bv,BD,.arr g 2 nn cl (vs Az D.toList),BK],c⟩)
 (hQ:∀c' mid (E:Array (Int×Int)),a'<mid→mid≤b'→E.size=len→Below Cj mid b' E→(∀ R,PermIn mid b' E R→SortedIn Cj mid b' R→PermIn a' b' D R∧SortedIn Cj a' b' R)→
   Q (.exit 1) [(0,.own 3 g 0 len),(1,.int .i64 mid),(2,.int .i64 b'),(3,.int .i64 limit),(4,.fn 36 []),(10,.bool wb),(11,.bool wp)] ⟨[Ap,Bv,BD,.arr g 2 nn cl (vs Az E.toList),BK],c'⟩):
 vC (Ac tab) (Gp Aat) ([(0,.own 3 g 0 len),(1,.int .i64 a'),(2,.int .i64 b'),(3,.int .i64 limit),(4,.fn 36 []),(10,.bool wb),(11,.bool wp),(12,.int .i64 (b'-a':Nat)),(13,.int .i64 p)]++tl) ⟨[Ap,Bv,BD,.arr g 2 nn cl (vs Az D.toList),BK],c⟩ (Ju K Q):=by
 (conv=>whnf);repeat' (first|exact hK _|((with_reducible show AY _ _ _);refine CG (a'-1) ?_;conv=>whnf)|((with_reducible show AY _ _ _);refine CG (p) ?_;conv=>whnf)|(refine Aa Eu ?_;rintro _ rfl;conv=>whnf)|(refine FP (fun hc=>?_) (fun hc=>?_)<;>conv=>whnf)|(refine kA ?_;conv=>whnf)|(refine Br.mk (fun hc=>?_) fun hc=>?_<;>first|exact hc.elim|conv=>whnf)|(refine kB ?_))
 refine(AdU hD hb hp1 hp2 hs).mono ?_
 rintro _ _ ⟨c1,rfl,rfl⟩
 generalize hx:partitionEqual Cj D a' b' p=R
 obtain⟨mid,E⟩:=R
 obtain⟨m1,m2,hE,hBr,fin⟩:=round_eq LD (partitionEqual_holds Cj) (by omega) hp1 hp2 (by omega) hB hc hx
 dsimp only
 conv=>whnf
 apply Ai rfl
 (conv=>whnf);repeat' (first  |(refine kA ?_;conv=>whnf)|(refine Br.mk (fun hc=>?_) fun hc=>?_<;>first|exact hc.elim|conv=>whnf)|(refine kB ?_))
 exact hQ _ mid E m1 m2 (by omega) hBr fin
theorem Ab9 {tl:Env} (hs:len<2^61) {a' b' c p:Nat} {limit h:Int} {wb wp:Bool} {D:Array (Int×Int)} {K:Env→Ag→Prop} {Q:Ak→Env→Ag→Prop} (hab:a'+12<b') (hb:b'≤len) (hD:D.size=len) (hB:Below Cj a' b' D)
 (hK:∀tl c (E:Array (Int×Int)),PermIn a' b' D E→K ([(0,.own 3 g 0 len),(1,.int .i64 a'),(2,.int .i64 b'),(3,.int .i64 limit),(4,.fn 36 []),(10,.bool wb),(11,.bool wp),(12,.int .i64 (b'-a':Nat)),(13,.int .i64 p)]++tl) ⟨[Ap,Bv,BD,.arr g 2 nn cl (vs Az E.toList),BK],c⟩)
 (hQ:∀c (E:Array (Int×Int)) env,PermIn a' b' D E→SortedIn Cj a' b' E→Q .ret env ⟨[Ap,Bv,BD,.arr g 2 nn cl (vs Az E.toList),BK],c⟩):
 vC (Ac tab) (Gp Aas) ([(0,.own 3 g 0 len),(1,.int .i64 a'),(2,.int .i64 b'),(3,.int .i64 limit),(4,.fn 36 []),(10,.bool wb),(11,.bool wp),(12,.int .i64 (b'-a':Nat)),(13,.int .i64 p),(14,.int .i64 h)]++tl) ⟨[Ap,Bv,BD,.arr g 2 nn cl (vs Az D.toList),BK],c⟩ (Ju K Q):=by
 (conv=>whnf);repeat' (first|exact hK _ _ _ (permIn_refl _ _ _)|(refine kA ?_;conv=>whnf)|(refine Br.mk (fun hc=>?_) fun hc=>?_<;>first|exact hc.elim|conv=>whnf)|(refine kB ?_))
 refine(Aca hD hb (by omega) hs).mono ?_
 rintro _ _ ⟨c1,rfl,rfl⟩
 have hp:=partialInsertionSort_holds LD D a' b' (by omega) (by omega) hB
 generalize partialInsertionSort Cj D a' b'=R at hp
 obtain⟨E,r⟩:=R
 obtain⟨q1,q2⟩:=hp
 dsimp only at q1 q2 ⊢
 conv=>whnf
 apply Ai rfl
 cases r with
 |true=>
  (conv=>whnf);repeat' (first  |(refine kA ?_;conv=>whnf)|(refine Br.mk (fun hc=>?_) fun hc=>?_<;>first|exact hc.elim|conv=>whnf)|(refine kB ?_))
  exact hQ _ E _ q1 (q2 rfl)
 |false=>
  (conv=>whnf);repeat' (first|exact hK _ _ _ q1|(refine kA ?_;conv=>whnf)|(refine Br.mk (fun hc=>?_) fun hc=>?_<;>first|exact hc.elim|conv=>whnf)|(refine kB ?_))
theorem Acb {tl:Env} (hs:len<2^61) {a' b' c p:Nat} {limit h:Int} {wb wp:Bool} {D:Array (Int×Int)} {K:Env→Ag→Prop} {Q:Ak→Env→Ag→Prop} (hab:a'+12<b') (hb:b'≤len) (hD:D.size=len) (hp1:a'≤p) (hp2:p<b')
 (hK:∀tl c (p:Nat) h (E:Array (Int×Int)),PermIn a' b' D E→a'≤p→p<b'→K ([(0,.own 3 g 0 len),(1,.int .i64 a'),(2,.int .i64 b'),(3,.int .i64 limit),(4,.fn 36 []),(10,.bool wb),(11,.bool wp),(12,.int .i64 (b'-a':Nat)),(13,.int .i64 p),(14,.int .i64 h)]++tl) ⟨[Ap,Bv,BD,.arr g 2 nn cl (vs Az E.toList),BK],c⟩):
 vC (Ac tab) (Gp (Dy (Dy Qr))) ([(0,.own 3 g 0 len),(1,.int .i64 a'),(2,.int .i64 b'),(3,.int .i64 limit),(4,.fn 36 []),(10,.bool wb),(11,.bool wp),(12,.int .i64 (b'-a':Nat)),(13,.int .i64 p),(14,.int .i64 h)]++tl) ⟨[Ap,Bv,BD,.arr g 2 nn cl (vs Az D.toList),BK],c⟩ (Ju K Q):=by
 (conv=>whnf);repeat' (first|exact hK _ _ _ _ _ (permIn_refl _ _ _) hp1 hp2|(refine kA ?_;conv=>whnf)|(refine Br.mk (fun hc=>?_) fun hc=>?_<;>first|exact hc.elim|conv=>whnf)|(refine kB ?_))
 refine(AdV hD hb (by omega) hs).mono ?_
 rintro _ _ ⟨c1,E,rfl,rfl,q1⟩
 conv=>whnf
 apply Ai rfl
 have e:(b':Int)-1-((p:Int)-a')=((b'-1-(p-a'):Nat):Int):=by omega
 have hK':=fun tl=>hK tl c1 (b'-1-(p-a')) 1 E q1 (by omega) (by omega)
 rw[← e]at hK'
 (conv=>whnf);repeat' (first|exact hK' _|(refine kA ?_;conv=>whnf)|(refine Br.mk (fun hc=>?_) fun hc=>?_<;>first|exact hc.elim|conv=>whnf)|(refine kB ?_))
theorem Acd {tl:Env} (hs:len<2^61) {a' b' c:Nat} {limit:Int} {wb wp:Bool} {D:Array (Int×Int)} {K:Env→Ag→Prop} {Q:Ak→Env→Ag→Prop} (hab:a'+12<b') (hb:b'≤len) (hD:D.size=len)
 (hK:∀tl c (p:Nat) h,a'≤p→p<b'→K ([(0,.own 3 g 0 len),(1,.int .i64 a'),(2,.int .i64 b'),(3,.int .i64 limit),(4,.fn 36 []),(10,.bool wb),(11,.bool wp),(12,.int .i64 (b'-a':Nat)),(13,.int .i64 p),(14,.int .i64 h)]++tl) ⟨[Ap,Bv,BD,.arr g 2 nn cl (vs Az D.toList),BK],c⟩):
 vC (Ac tab) (Gp (Dy Qr)) ([(0,.own 3 g 0 len),(1,.int .i64 a'),(2,.int .i64 b'),(3,.int .i64 limit),(4,.fn 36 []),(10,.bool wb),(11,.bool wp),(12,.int .i64 (b'-a':Nat))]++tl) ⟨[Ap,Bv,BD,.arr g 2 nn cl (vs Az D.toList),BK],c⟩ (Ju K Q):=by
 (conv=>whnf);repeat' (first  |(refine kA ?_;conv=>whnf)|(refine Br.mk (fun hc=>?_) fun hc=>?_<;>first|exact hc.elim|conv=>whnf)|(refine kB ?_))
 refine(AdW hD hb hab hs).mono ?_
 rintro _ _ ⟨c1,p,h,ob,rfl,rfl,q1,q2⟩
 conv=>whnf
 apply Ai rfl
 (conv=>whnf);repeat' (first|exact hK _ _ _ _ q1 q2|(refine kA ?_;conv=>whnf)|(refine Br.mk (fun hc=>?_) fun hc=>?_<;>first|exact hc.elim|conv=>whnf)|(refine kB ?_))
theorem Ace {tl:Env} (hs:len<2^61) {a' b' c:Nat} {limit:Int} {wb wp:Bool} {D:Array (Int×Int)} {K:Env→Ag→Prop} {Q:Ak→Env→Ag→Prop} (hab:a'+12<b') (hb:b'≤len) (hD:D.size=len) (hlim:0<limit)
 (hK:∀tl c wb limit (E:Array (Int×Int)),0≤limit→limit<2^62→PermIn a' b' D E→K ([(0,.own 3 g 0 len),(1,.int .i64 a'),(2,.int .i64 b'),(3,.int .i64 limit),(4,.fn 36 []),(10,.bool wb),(11,.bool wp),(12,.int .i64 (b'-a':Nat))]++tl) ⟨[Ap,Bv,BD,.arr g 2 nn cl (vs Az E.toList),BK],c⟩) (Ec:limit<2^62):
 vC (Ac tab) (Gp Qr) ([(0,.own 3 g 0 len),(1,.int .i64 a'),(2,.int .i64 b'),(3,.int .i64 limit),(4,.fn 36 []),(10,.bool wb),(11,.bool wp),(12,.int .i64 (b'-a':Nat))]++tl) ⟨[Ap,Bv,BD,.arr g 2 nn cl (vs Az D.toList),BK],c⟩ (Ju K Q):=by
 cases wb with
 |true=>(conv=>whnf);repeat' (first|exact hK _ _ _ _ _ (by omega) (by omega) (permIn_refl _ _ _)|(refine kA ?_;conv=>whnf)|(refine Br.mk (fun hc=>?_) fun hc=>?_<;>first|exact hc.elim|conv=>whnf)|(refine kB ?_))
 |false=>
  (conv=>whnf);repeat' (first  |(refine kA ?_;conv=>whnf)|(refine Br.mk (fun hc=>?_) fun hc=>?_<;>first|exact hc.elim|conv=>whnf)|(refine kB ?_))
  refine(AdX hD hb hab hs).mono ?_
  rintro _ _ ⟨c1,E,ob,rfl,rfl,q1⟩
  conv=>whnf
  apply Ai rfl
  (conv=>whnf);repeat' (first|exact hK _ _ _ _ _ (by omega) (by omega) q1|(refine kA ?_;conv=>whnf)|(refine Br.mk (fun hc=>?_) fun hc=>?_<;>first|exact hc.elim|conv=>whnf)|(refine kB ?_))
theorem Acf {a' b' c:Nat} {limit:Int} {wb wp:Bool} {D:Array (Int×Int)} {K:Env→Ag→Prop} {Q:Ak→Env→Ag→Prop} (hs:len<2^61) (hab:a'≤b') (hb:b'≤len)
 (hK:∀tl,K ([(0,.own 3 g 0 len),(1,.int .i64 a'),(2,.int .i64 b'),(3,.int .i64 limit),(4,.fn 36 []),(10,.bool wb),(11,.bool wp),(12,.int .i64 (b'-a':Nat))]++tl) ⟨[Ap,Bv,BD,.arr g 2 nn cl (vs Az D.toList),BK],c⟩):
 vC (Ac tab) (Gp (KD l68_0_b)) [(0,.own 3 g 0 len),(1,.int .i64 a'),(2,.int .i64 b'),(3,.int .i64 limit),(4,.fn 36 []),(10,.bool wb),(11,.bool wp)] ⟨[Ap,Bv,BD,.arr g 2 nn cl (vs Az D.toList),BK],c⟩ (Ju K Q):=by
 rw[show ((b'-a':Nat):Int)=(b':Int)-a' by omega]at hK
 (conv=>whnf);repeat' (first|exact hK []|(refine kA ?_;conv=>whnf)|(refine Br.mk (fun hc=>?_) fun hc=>?_<;>first|exact hc.elim|conv=>whnf)|(refine kB ?_))
theorem Acg {tl:Env} (hs:len<2^61) {a' b' c:Nat} {limit:Int} {wb wp:Bool} {D:Array (Int×Int)} {K:Env→Ag→Prop} {Q:Ak→Env→Ag→Prop} (hab:a'≤b') (hb:b'≤len) (hD:D.size=len)
 (hK:∀tl c,a'+12<b'→K ([(0,.own 3 g 0 len),(1,.int .i64 a'),(2,.int .i64 b'),(3,.int .i64 limit),(4,.fn 36 []),(10,.bool wb),(11,.bool wp),(12,.int .i64 (b'-a':Nat))]++tl) ⟨[Ap,Bv,BD,.arr g 2 nn cl (vs Az D.toList),BK],c⟩)
 (hQ:∀c (E:Array (Int×Int)) env,PermIn a' b' D E→SortedIn Cj a' b' E→Q .ret env ⟨[Ap,Bv,BD,.arr g 2 nn cl (vs Az E.toList),BK],c⟩):
 vC (Ac tab) (Gp (Dy (KD l68_0_b))) ([(0,.own 3 g 0 len),(1,.int .i64 a'),(2,.int .i64 b'),(3,.int .i64 limit),(4,.fn 36 []),(10,.bool wb),(11,.bool wp),(12,.int .i64 (b'-a':Nat))]++tl) ⟨[Ap,Bv,BD,.arr g 2 nn cl (vs Az D.toList),BK],c⟩ (Ju K Q):=by
 (conv=>whnf);repeat' (first|exact hK _ _ (by omega)|(refine kA ?_;conv=>whnf)|(refine Br.mk (fun hc=>?_) fun hc=>?_<;>first|exact hc.elim|conv=>whnf)|(refine kB ?_))
 refine(AdQ hD hb hs (by omega)).mono ?_
 rintro _ _ ⟨c1,rfl,rfl⟩
 conv=>whnf
 apply Ai rfl
 (conv=>whnf);repeat' (first  |(refine kA ?_;conv=>whnf)|(refine Br.mk (fun hc=>?_) fun hc=>?_<;>first|exact hc.elim|conv=>whnf)|(refine kB ?_))
 obtain⟨q1,q2⟩:=insertionSort_holds LD D a' b' hab (by omega)
 exact hQ _ _ _ q1 q2
theorem Aav {tl:Env} (hs:len<2^61) {a' b' c:Nat} {limit:Int} {wb wp:Bool} {D:Array (Int×Int)} {K:Env→Ag→Prop} {Q:Ak→Env→Ag→Prop} (hab:a'+12<b') (hb:b'≤len) (hD:D.size=len) (hlim:0≤limit)
 (hK:∀tl c,0<limit→K ([(0,.own 3 g 0 len),(1,.int .i64 a'),(2,.int .i64 b'),(3,.int .i64 limit),(4,.fn 36 []),(10,.bool wb),(11,.bool wp),(12,.int .i64 (b'-a':Nat))]++tl) ⟨[Ap,Bv,BD,.arr g 2 nn cl (vs Az D.toList),BK],c⟩)
 (hQ:∀c (E:Array (Int×Int)) env,PermIn a' b' D E→SortedIn Cj a' b' E→Q .ret env ⟨[Ap,Bv,BD,.arr g 2 nn cl (vs Az E.toList),BK],c⟩):
 vC (Ac tab) (Gp (Dy (Dy (KD l68_0_b)))) ([(0,.own 3 g 0 len),(1,.int .i64 a'),(2,.int .i64 b'),(3,.int .i64 limit),(4,.fn 36 []),(10,.bool wb),(11,.bool wp),(12,.int .i64 (b'-a':Nat))]++tl) ⟨[Ap,Bv,BD,.arr g 2 nn cl (vs Az D.toList),BK],c⟩ (Ju K Q):=by
 (conv=>whnf);repeat' (first|exact hK _ _ (by omega)|(refine kA ?_;conv=>whnf)|(refine Br.mk (fun hc=>?_) fun hc=>?_<;>first|exact hc.elim|conv=>whnf)|(refine kB ?_))
 refine(Ab5 hD hb hs (by omega)).mono ?_
 rintro _ _ ⟨c1,rfl,rfl⟩
 conv=>whnf
 apply Ai rfl
 (conv=>whnf);repeat' (first  |(refine kA ?_;conv=>whnf)|(refine Br.mk (fun hc=>?_) fun hc=>?_<;>first|exact hc.elim|conv=>whnf)|(refine kB ?_))
 obtain⟨q1,q2⟩:=heapSort_holds LD D a' b' (by omega) (by omega)
 exact hQ _ _ _ q1 q2
theorem Aaw (hs:len<2^61) (ih:∀x y,y-x<b-a→WE Ap Bv BD BK g len nn cl x y) {a' b' c:Nat} {limit:Int} {wb wp:Bool} {D:Array (Int×Int)} (hab:a'≤b') (hb:b'≤len) (hle:b'-a'≤b-a) (hlim:0≤limit) (Ec:limit<2^62) (hD:D.size=len) (hB:Below Cj a' b' D)
 (hR:∀R,PermIn a' b' D R→SortedIn Cj a' b' R→PermIn a b d R∧SortedIn Cj a b R):
 vC (Ac tab) (KD l68_0_b) [(0,.own 3 g 0 len),(1,.int .i64 a'),(2,.int .i64 b'),(3,.int .i64 limit),(4,.fn 36 []),(10,.bool wb),(11,.bool wp)] ⟨[Ap,Bv,BD,.arr g 2 nn cl (vs Az D.toList),BK],c⟩ (QJ Ap Bv BD BK g len nn cl a b d (b'-a')):=by
 have hret:∀c (E:Array (Int×Int)) env,PermIn a b d E→SortedIn Cj a b E→QJ Ap Bv BD BK g len nn cl a b d (b'-a') .ret env ⟨[Ap,Bv,BD,.arr g 2 nn cl (vs Az E.toList),BK],c⟩:=by
  intro c E env h1 h2
  unfold QJ
  conv=>whnf
  apply Ai rfl
  exact⟨_,E,rfl,rfl,h1,h2⟩
 refine EG (a:=Gp (KD l68_0_b)) (b:=Dy (KD l68_0_b)) (Acf hs hab hb fun tl1=>?_)
 refine EG (a:=Gp (Dy (KD l68_0_b))) (b:=Dy (Dy (KD l68_0_b))) (Acg hs hab hb hD (fun tl2 c2 h12=>?_) fun c E env h1 h2=>hret c E env (hR E h1 h2).1 (hR E h1 h2).2)
 refine EG (a:=Gp (Dy (Dy (KD l68_0_b)))) (b:=Qr) (Aav hs h12 hb hD hlim (fun tl3 c3 hl0=>?_) fun c E env h1 h2=>hret c E env (hR E h1 h2).1 (hR E h1 h2).2)
 refine EG (a:=Gp Qr) (b:=Dy Qr) (Ace hs h12 hb hD hl0 (fun tl4 c4 wb4 Aci E4 hl4 Yi p4=>?_) Ec)
 have hD4:E4.size=len:=by rw[p4.1,hD]
 refine EG (a:=Gp (Dy Qr)) (b:=Dy (Dy Qr)) (Acd hs h12 hb hD4 fun tl5 c5 p h hp1 hp2=>?_)
 refine EG (a:=Gp (Dy (Dy Qr))) (b:=Aas) (Acb hs h12 hb hD4 hp1 hp2 fun tl6 c6 p6 h6 E6 q6 Yj Yk=>?_)
 have Yl:=permIn_trans _ _ _ _ _ p4 q6
 have hD6:E6.size=len:=by rw[Yl.1,hD]
 have hB6:=hB.perm (by omega) Yl
 refine EG (a:=Gp Aas) (b:=Aat) (Ab9 hs h12 hb hD6 hB6 (fun tl7 c7 E7 q7=>?_) fun c E env h1 h2=>hret c E env (hR E (permIn_trans _ _ _ _ _ Yl h1) h2).1 (hR E (permIn_trans _ _ _ _ _ Yl h1) h2).2)
 have p7:=permIn_trans _ _ _ _ _ Yl q7
 have hD7:E7.size=len:=by rw[p7.1,hD]
 have hB7:=hB.perm (by omega) p7
 have hR7:∀R,PermIn a' b' E7 R→SortedIn Cj a' b' R→PermIn a b d R∧SortedIn Cj a b R:=fun R h1 h2=>hR R (permIn_trans _ _ _ _ _ p7 h1) h2
 refine EG (a:=Gp Aat) (b:=AdS) (Ab8 hs h12 hb hD7 hB7 Yj Yk (fun tl8=>Ab7 hs ih h12 hb hle hl4 Yi hD7 hB7 hR7 Yj Yk) fun c' mid E m1 m2 hE hBE fin=>?_)
 unfold QJ
 conv=>whnf
 exact again.mk ⟨_,by omega,mid,b',_,Aci,_,_,E,rfl,by omega,hb,by omega,hl4,Yi,hE,hBE,fun R h1 h2=>hR7 R (fin R h1 h2).1 (fin R h1 h2).2,rfl,rfl⟩
end
theorem Ad0 {Ap Bv BD BK:Obj} {g len:Nat} {nn cl:Bool} (hs:len<2^61):∀n a b,b-a≤n→WE Ap Bv BD BK g len nn cl a b:=by
 intro n
 induction n using Nat.strongRecOn with
 |ind n IH=>
  intro a b hn
  have ih:∀x y,y-x<b-a→WE Ap Bv BD BK g len nn cl x y:=fun x y h=>IH (y-x) (by omega) x y (Nat.le_refl _)
  clear IH hn
  intro c limit d hd hb hab hlim Ec hB
  refine Ar rfl rfl ?_
  (conv=>whnf);repeat' (first  |(refine kA ?_;conv=>whnf)|(refine Br.mk (fun hc=>?_) fun hc=>?_<;>first|exact hc.elim|conv=>whnf)|(refine kB ?_))
  refine Ae (Abx Ap Bv BD BK g len nn cl a b d) ?_ _ _ _ ⟨a,b,_,limit,true,true,d,rfl,hab,hb,Nat.le_refl _,hlim,Ec,hd,hB,fun R h1 h2=>⟨h1,h2⟩,rfl,rfl⟩
  rintro _ _ _ ⟨a',b',c,limit,wb,wp,D,rfl,hab',hb',hle,hlim,Ec,hD,hB',hR,rfl,rfl⟩
  refine⟨rfl,?_⟩
  exact Aaw hs ih hab' hb' hle hlim Ec hD hB' hR
theorem Aax {Ap Bv BD BK:Obj} {g len c:Nat} {nn cl:Bool} {L:List (Int×Int)} (hl:L.length=len) (hs:len<2^61) {limit:Int} (h0:0≤limit) (h1:limit<2^62):
 AQ (Ac tab) 68 [.own 3 g 0 len,.int .i64 0,.int .i64 len,.int .i64 limit,.fn 36 []] ⟨[Ap,Bv,BD,.arr g 2 nn cl (vs Az L),BK],c⟩ fun out s'=>∃c' W,out=.ok (.CO [])∧s'=⟨[Ap,Bv,BD,.arr g 2 nn cl (vs Az W),BK],c'⟩∧W.Perm L∧W.Pairwise (fun x y=>Cj y x=false):=by
 have:=Ad0 (Ap:=Ap) (Bv:=Bv) (BD:=BD) (BK:=BK) (g:=g) (nn:=nn) (cl:=cl) hs len 0 len (by omega) c limit L.toArray (by simpa using hl) (Nat.le_refl _) (by omega) h0 h1 (Or.inl rfl)
 refine this.mono ?_
 rintro _ _ ⟨c',D,rfl,rfl,p1,p2⟩
 refine⟨c',D.toList,rfl,rfl,WG hl p1,QK (by rw[p1.1];simpa using hl) p2⟩
end
section
open Go.Sort
theorem AdD {Ap Bv BD BK:Obj} {g len c:Nat} {nn cl:Bool} {L:List (Int×Int)} (hl:L.length=len) (hs:len<2^61):
 AQ (Ac tab) 35 [.own 3 g 0 len,.fn 36 []] ⟨[Ap,Bv,BD,.arr g 2 nn cl (vs Az L),BK],c⟩ fun out s'=>∃c' W,out=.ok (.CO [])∧s'=⟨[Ap,Bv,BD,.arr g 2 nn cl (vs Az W),BK],c'⟩∧W.Perm L∧W.Pairwise (fun x y=>Cj y x=false):=by
 have hb:bitsLen len≤62:=(bitsLen_le_iff len 62).2 (by omega)
 refine Ar rfl rfl ?_
 (conv=>whnf);repeat' (first|(refine wrapN len rfl rfl (by show _<2^64;omega) ?_;conv=>whnf)|(refine Aa (OV (n:=len) (by omega)) ?_;rintro _ rfl;conv=>whnf)|(refine kA ?_;conv=>whnf)|(refine Br.mk (fun hc=>?_) fun hc=>?_<;>first|exact hc.elim|conv=>whnf)|(refine kB ?_))
 refine(Aax hl hs (by omega) (by omega)).mono ?_
 rintro _ _ ⟨c',W,rfl,rfl,h1,h2⟩
 conv=>whnf
 apply Ai rfl
 (conv=>whnf);repeat' (first  |(refine kA ?_;conv=>whnf)|(refine Br.mk (fun hc=>?_) fun hc=>?_<;>first|exact hc.elim|conv=>whnf)|(refine kB ?_))
 exact⟨_,W,rfl,rfl,h1,h2⟩
end
section
open Go.RowKit Go.Sort
structure Hold (p:Prop):Prop where
 h:p
section
variable {P:Program} {AP:Nat→Option Gv} {n:Nat}
theorem AW.go (hS:∀N,Ba P (run AP N)) (hm:P.follows .mixedOrders=true) {an:List Fb} {x y:Code} {a:Am} (hx:BN P n an x=some a) {env:Env} {s:Ag} {Q:Ak→Env→Ag→Prop} (h:vC AP a env s fun e env s=>Hold (AbL P n y Q e env s)):AW P n (.seq x y) env s Q:=
 AW.seq (AW.of_run hS hm hx ((Hl h).mono fun e env s k=>k.h))
theorem AW.fin (hS:∀N,Ba P (run AP N)) (hm:P.follows .mixedOrders=true) {an:List Fb} {x:Code} {a:Am} (hx:BN P n an x=some a) {env:Env} {s:Ag} {Q:Ak→Env→Ag→Prop} (h:vC AP a env s fun e env s=>Hold (Q e env s)):AW P n x env s Q:=
 AW.of_run hS hm hx ((Hl h).mono fun e env s k=>k.h)
end
def Ld:Code→Code
 | .seq a _=>a
 |c=>c
def SG:Code→Code
 | .seq _ b=>b
 |c=>c
def SH:Am→Am
 | .seq a _=>a
 |c=>c
def SI:Am→Am
 | .seq _ b=>b
 |c=>c
def AcW (f:Func):Code:=f.body.getD .skip
theorem SL:∀{S:List (Int×Nat)} {k:Int},(JL (S.map pz) k=none↔k∉S.map (·.1))
 |[],k=>by simp[JL]
 |p::S,k=>by
  have ih:=@SL S k
  simp only[List.map_cons,pz,JL,List.mem_cons,not_or]
  split
  ·rename_i h;simp[h]
  ·rename_i h;simp[h,ih]
theorem XE {M:List (Int×Int)} {k v:Int} (h:JL M k=none):PE M k v=M++[(k,v)]:=by
 induction M with
 |nil=>rfl
 |cons p M ih=>
  obtain⟨a,b⟩:=p
  simp only[JL]at h
  split at h
  ·cases h
  ·rename_i hk
   simp only[PE]
   rw[if_neg hk,ih h];rfl
set_option maxHeartbeats 2000000 in
theorem AeK {g:GG} {types:List (List UInt8)} {tn:Bool} {dir:Int} {d:Nat} {seen:List (Int×Nat)} {N:List Int} {nb0:Bool} (hs:seen.length≤1000) (hN:Inc N) (hNl:N.length≤1000) (hd:d≤100000) {ga gm g1 c0:Nat} {fo:Bool} {Q:Ak→Env→Ag→Prop}
 (hQ:∀g1' n1 f1 c' tl,n1=(fresh seen N).length→Q (.exit 2) ([(9,.ref 1 ga 0 0),(10,.map 2 gm),(12,.int .i64 d),(13,.own 3 g1' 0 n1),(41,.sl nb0 (vi N)),(42,.int .i64 N.length),(43,.int .i64 N.length)]++tl) ⟨[.arr 0 4 true true [g.av],.arr ga 6 true true [Xp g tn types dir],.mp gm true (Fz ((seen++(fresh seen N).map fun x=>(x,d)).map pz)),.arr g1' 1 f1 true (vi (fresh seen N))],c'⟩):
 Run (Ac tab) (.loop l13_0_h l13_0_b) [(9,.ref 1 ga 0 0),(10,.map 2 gm),(12,.int .i64 d),(13,.own 3 g1 0 0),(41,.sl nb0 (vi N)),(42,.int .i64 N.length),(43,.int .i64 0)] ⟨[.arr 0 4 true true [g.av],.arr ga 6 true true [Xp g tn types dir],.mp gm true (Fz (seen.map pz)),.arr g1 1 fo true []],c0⟩ Q:=by
 refine Ae (fun m env s=>∃(i g1 n1 c:Nat) (f1:Bool) (F:List Int) (S:List (Int×Nat)),m=N.length-i∧i≤N.length∧F=fresh seen (N.take i)∧F.length≤i∧S=seen++F.map (fun x=>(x,d))∧n1=F.length∧env=[(9,.ref 1 ga 0 0),(10,.map 2 gm),(12,.int .i64 d),(13,.own 3 g1 0 n1),(41,.sl nb0 (vi N)),(42,.int .i64 N.length),(43,.int .i64 i)]∧s=⟨[.arr 0 4 true true [g.av],.arr ga 6 true true [Xp g tn types dir],.mp gm true (Fz (S.map pz)),.arr g1 1 f1 true (vi F)],c⟩) ?_ _ _ _ ⟨0,g1,0,c0,fo,[],seen,rfl,by omega,rfl,by simp,by simp,rfl,rfl,rfl⟩
 rintro _ _ _ ⟨i,g1,n1,c,f1,F,S,rfl,hi,hF,hFl,hS,hn1,rfl,rfl⟩
 refine⟨rfl,?_⟩
 by_cases hlt:i<N.length
 ·have hfs:=PO (seen:=seen) hlt
  rw[← hF]at hfs
  have hiff:N[i]∈S.map (·.1)↔N[i]∈seen.map (·.1):=by
   rw[hS,List.map_append,List.mem_append]
   constructor
   ·rintro(k|k)
    ·exact k
    ·exfalso
     rw[List.map_map]at k
     obtain⟨x,hx,e⟩:=List.mem_map.1 k
     replace e:x=N[i]:=e
     rw[hF]at hx
     have hx2:=(List.mem_filter.1 hx).1
     obtain⟨j,hj,e2⟩:=List.getElem_of_mem hx2
     rw[List.length_take]at hj
     rw[List.getElem_take]at e2
     have:=List.pairwise_iff_getElem.1 hN j i (by omega) hlt (by omega)
     omega
   ·exact .inl
  by_cases hmm:N[i]∈seen.map (·.1)
  ·rw[if_pos hmm,List.append_nil]at hfs
   have hnn:¬JL (S.map pz) N[i]=none:=fun k=>SL.1 k (hiff.2 hmm)
   (conv=>whnf);repeat' (first|(refine fkI (fun hm=>?_) (fun _ v hm=>?_)<;>conv=>whnf)|(refine kA ?_;conv=>whnf)|(refine Br.mk (fun hc=>?_) fun hc=>?_<;>first|exact hc.elim|conv=>whnf)|(refine kB ?_))
   all_goals first
        |exact absurd hm hnn
        |(exfalso;omega)
        |exact again.mk ⟨_,by omega,i+1,_,_,_,_,F,S,rfl,by omega,hfs.symm,by omega,hS,hn1,rfl,rfl⟩
  ·rw[if_neg hmm]at hfs
   have hnn:JL (S.map pz) N[i]=none:=SL.2 fun k=>hmm (hiff.1 k)
   have hms:PE (S.map pz) N[i] (d:Int)=(S++[(N[i],d)]).map pz:=by rw[XE hnn,List.map_append];rfl
   (conv=>whnf);repeat' (first|(refine fkI (fun hm=>?_) (fun _ v hm=>?_)<;>conv=>whnf)|(apply msI;rw[hms];conv=>whnf)|(refine Kz (f:=.int .i64) (l:=F) (x:=N[i]) Bl hn1 (by omega) ?_;conv=>whnf)|(refine kA ?_;conv=>whnf)|(refine Br.mk (fun hc=>?_) fun hc=>?_<;>first|exact hc.elim|conv=>whnf)|(refine kB ?_))
   all_goals first
        |(rw [hnn]at hm;cases hm;done)
        |(exfalso;omega)
        |exact again.mk ⟨_,by omega,i+1,_,_,_,_,F++[N[i]],S++[(N[i],d)],rfl,by omega,hfs.symm,by simp;omega,by rw[hS];simp,by simp,rfl,rfl⟩
 ·rw[List.take_of_length_le (by omega)]at hF
  obtain rfl:i=N.length:=by omega
  subst hF hS
  (conv=>whnf);repeat' (first  |(refine kA ?_;conv=>whnf)|(refine Br.mk (fun hc=>?_) fun hc=>?_<;>first|exact hc.elim|conv=>whnf)|(refine kB ?_))
  all_goals first
   |(exfalso;omega)
   |exact hQ _ _ _ _ _ hn1
set_option maxHeartbeats 2000000 in
theorem AeL {g:GG} (hg:g.ok) (hE:g.edges.length≤100) {types:List (List UInt8)} {tn:Bool} (ht:types.length<2^63) {dir a:Int} {ga gm c0:Nat} {Q:Ak→Env→Ag→Prop}
 (hQ:∀d seen c' tl,QA (CY types dir g.edges) a d seen []→Q (.exit 0) ([(9,.ref 1 ga 0 0),(10,.map 2 gm)]++tl) ⟨[.arr 0 4 true true [g.av],.arr ga 6 true true [Xp g tn types dir],.mp gm true (Fz (seen.map pz))],c'⟩):
 Run (Ac tab) (.loop l13_1_h l13_1_b) [(9,.ref 1 ga 0 0),(10,.map 2 gm),(11,.sl true (vi [a])),(12,.int .i64 1)] ⟨[.arr 0 4 true true [g.av],.arr ga 6 true true [Xp g tn types dir],.mp gm true (Fz [(a,0)])],c0⟩ Q:=by
 refine Ae (fun m env s=>∃(d c:Nat) (lb:Bool) (seen:List (Int×Nat)) (level:List Int),m=Zg seen level∧((level≠[]→d≤seen.length)∧d≤seen.length+1)∧QA (CY types dir g.edges) a d seen level∧env=[(9,.ref 1 ga 0 0),(10,.map 2 gm),(11,.sl lb (vi level)),(12,.int .i64 d)]∧s=⟨[.arr 0 4 true true [g.av],.arr ga 6 true true [Xp g tn types dir],.mp gm true (Fz (seen.map pz))],c⟩) ?_ _ _ _ ⟨1,c0,true,[(a,0)],[a],rfl,⟨fun _=>by simp,by simp⟩,QA.start _ a,rfl,rfl⟩
 rintro _ _ _ ⟨d,c,lb,seen,level,rfl,hds,hB,rfl,rfl⟩
 refine⟨rfl,?_⟩
 have hsl:=hB.few
 have hll:=hB.Ri
 by_cases he:level=[]
 ·subst he
  (conv=>whnf);repeat' (first  |(refine kA ?_;conv=>whnf)|(refine Br.mk (fun hc=>?_) fun hc=>?_<;>first|exact hc.elim|conv=>whnf)|(refine kB ?_))
  all_goals first
   |(exfalso;simp at *;omega)
   |exact hQ d seen _ _ hB
 ·have hpos:0<level.length:=List.length_pos_iff.2 he
  obtain⟨_,⟨b,rfl⟩,hp⟩:=(Abu (g:=g) hg hE (types:=types) (tn:=tn) ht (dir:=dir) (l:=level) (nn:=lb) (by omega)).Oj
  have hNi:Inc (nextL (CY types dir g.edges) level):=Kv
  have hNl:(nextL (CY types dir g.edges) level).length≤1000:=by
   have:=Lm hNi (U:=Ll g.edges) fun x hx=>by
        obtain⟨y,_,h⟩:=(Ih _).1 hx
        exact GY h
   rw[GX]at this
   omega
  have hless:=hB.less hE he
  have hst:=hB.step
  have hst2:=hst.few
  (conv=>whnf);repeat' (first|(refine Aa hp ?_;rintro _ rfl;conv=>whnf)|(refine kA ?_;conv=>whnf)|(refine Br.mk (fun hc=>?_) fun hc=>?_<;>first|exact hc.elim|conv=>whnf)|(refine kB ?_))
  all_goals first|(exfalso;omega)|skip
  refine AeK (d:=d) (by omega) hNi hNl (by omega) fun g1' n1 f1 c' tl h2=>?_
  have hd1:=hds.1 he
  have hd2:fresh seen (nextL (CY types dir g.edges) level)≠[]→d+1≤(seen++(fresh seen (nextL (CY types dir g.edges) level)).map fun x=>(x,d)).length:=fun k=>by
   have:=List.length_pos_iff.2 k
   rw[List.length_append,List.length_map];omega
  have hd3:d+1≤(seen++(fresh seen (nextL (CY types dir g.edges) level)).map fun x=>(x,d)).length+1:=by rw[List.length_append];omega
  generalize hF:fresh seen (nextL (CY types dir g.edges) level)=F at*
  generalize hS:(seen++F.map fun x=>(x,d))=S at*
  (conv=>whnf);repeat' (first  |(refine kA ?_;conv=>whnf)|(refine Br.mk (fun hc=>?_) fun hc=>?_<;>first|exact hc.elim|conv=>whnf)|(refine kB ?_))
  all_goals first
   |(exfalso;omega)
   |(rw [h2,uV];exact again.mk ⟨_,hless,d+1,_,_,S,F,rfl,⟨hd2,hd3⟩,hst,rfl,rfl⟩)
   |exact again.mk ⟨_,hless,d+1,_,_,S,F,rfl,⟨hd2,hd3⟩,hst,rfl,rfl⟩
end
end AI
end Go.Proofs.YthjeehjphekjmaaGreatDoor
