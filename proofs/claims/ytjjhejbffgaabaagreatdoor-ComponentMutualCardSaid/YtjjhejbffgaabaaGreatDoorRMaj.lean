/- Sorting in place (CmpFunc[graphdb/api.Pair]): insertion, heaps. bits.Len, nextPowerOfTwo. Sorting in place (CmpFunc[graphdb/api.Pair]): the pivot, reversing, breaking patterns. -/
import Derived.Test.YtjjhejbffgaabaaGreatDoorRMai
import Derived.Test.YtjjhejbffgaabaaGreatDoorRMae
set_option linter.unusedVariables false
set_option maxRecDepth 4000
namespace Go.Proofs.YtjjhejbffgaabaaGreatDoor
namespace AI
section
open Go.Sort
set_option maxHeartbeats 1000000 in
theorem Aiy {AX BA BJ BN:Obj} {g c len:Nat} {nn cl:Bool} {d:Array (Int×Int)} {a b:Nat} (hl:d.size=len) (hb:b≤len) (hs:len<2^61) (ha:a≤len):
 AY (Ac tab) 120 [.own 3 g 0 len,.int .i64 a,.int .i64 b,.fn 77 []] ⟨[AX,BA,BJ,.arr g 2 nn cl (vs A8 d.toList),BN],c⟩ fun out s'=>∃c',out=.ok (.Du [])∧s'=⟨[AX,BA,BJ,.arr g 2 nn cl (vs A8 (insertionSort CU d a b).toList),BN],c'⟩:=by
 refine AL rfl rfl ?_
 (conv=>whnf);repeat' (first  |(refine kA ?_;conv=>whnf)|(refine Br.mk (fun hc=>?_) fun hc=>?_<;>first|exact hc.elim|conv=>whnf)|(refine kB ?_))
 refine Ah (fun m env s=>∃(i c:Nat) (D:Array (Int×Int)),m=b-i∧insOuter CU a b i D=insertionSort CU d a b∧D.size=len∧env=[(0,.own 3 g 0 len),(1,.int .i64 a),(2,.int .i64 b),(3,.fn 77 []),(8,.int .i64 i)]∧s=⟨[AX,BA,BJ,.arr g 2 nn cl (vs A8 D.toList),BN],c⟩) ?_ _ _ _ ⟨a+1,c,d,rfl,rfl,hl,rfl,rfl⟩
 rintro _ _ _ ⟨i,c,D,rfl,hD,hDl,rfl,rfl⟩
 refine⟨rfl,?_⟩
 (conv=>whnf);repeat' (first  |(refine kA ?_;conv=>whnf)|(refine Br.mk (fun hc=>?_) fun hc=>?_<;>first|exact hc.elim|conv=>whnf)|(refine kB ?_))
 ·rw[Ad6 (by omega)]at hD
  refine Ah (fun m env s=>∃(j c:Nat) (z:Int) (E:Array (Int×Int)),m=j∧z=j∧j≤i∧insInner CU a j E=insInner CU a i D∧E.size=len∧env=[(0,.own 3 g 0 len),(1,.int .i64 a),(2,.int .i64 b),(3,.fn 77 []),(8,.int .i64 i),(9,.int .i64 z)]∧s=⟨[AX,BA,BJ,.arr g 2 nn cl (vs A8 E.toList),BN],c⟩) ?_ _ _ _ ⟨i,_,_,D,rfl,rfl,by omega,rfl,hDl,rfl,rfl⟩
  rintro j _ _ ⟨_,c,z,E,rfl,hz,hj,hE,hEl,rfl,rfl⟩
  refine⟨rfl,?_⟩
  cases j with
  |zero=>
   (conv=>whnf);repeat' (first  |(refine kA ?_;conv=>whnf)|(refine Br.mk (fun hc=>?_) fun hc=>?_<;>first|exact hc.elim|conv=>whnf)|(refine kB ?_))
   rw[← hE]at hD
   exact again.mk ⟨_,by omega,i+1,_,E,rfl,hD,hEl,rfl,rfl⟩
  |succ j=>
   (conv=>whnf);repeat' (first|((with_reducible show BX _ _ _);refine GI (j+1) ?_;conv=>whnf)|((with_reducible show BX _ _ _);refine GI (j) ?_;conv=>whnf)|(refine Aa ET ?_;rintro _ rfl;conv=>whnf)|(refine Gh (fun hc=>?_) (fun hc=>?_)<;>conv=>whnf)|((with_reducible show eqK _ _);refine LW BG (j+1) ?_;conv=>whnf)|((with_reducible show eqK _ _);refine LW BG (j) ?_;conv=>whnf)|(refine kA ?_;conv=>whnf)|(refine Br.mk (fun hc=>?_) fun hc=>?_<;>first|exact hc.elim|conv=>whnf)|(refine kB ?_))
   ·rw[AbX (by omega) hc]at hE
    exact again.mk ⟨_,by omega,j,_,_,swp E (j+1) j,rfl,by omega,by omega,hE,by simpa using hEl,rfl,rfl⟩
   ·rw[V9 (fun _=>hc)]at hE
    rw[← hE]at hD
    exact again.mk ⟨_,by omega,i+1,_,E,rfl,hD,hEl,rfl,rfl⟩
   ·rw[V9 (fun h=>absurd h (by omega))]at hE
    rw[← hE]at hD
    exact again.mk ⟨_,by omega,i+1,_,E,rfl,hD,hEl,rfl,rfl⟩
 ·rw[Ad7 (by omega)]at hD
  exact⟨_,rfl,by rw[hD]⟩
set_option maxHeartbeats 1000000 in
theorem AbZ {AX BA BJ BN:Obj} {g c len:Nat} {nn cl:Bool} {d:Array (Int×Int)} {lo hi first:Nat} (hl:d.size=len) (hb:first+hi≤len) (hs:len<2^61) (hlo:lo≤len):
 AY (Ac tab) 145 [.own 3 g 0 len,.int .i64 lo,.int .i64 hi,.int .i64 first,.fn 77 []] ⟨[AX,BA,BJ,.arr g 2 nn cl (vs A8 d.toList),BN],c⟩ fun out s'=>∃c',out=.ok (.Du [])∧s'=⟨[AX,BA,BJ,.arr g 2 nn cl (vs A8 (siftDown CU hi first lo d).toList),BN],c'⟩:=by
 refine AL rfl rfl ?_
 (conv=>whnf);repeat' (first  |(refine kA ?_;conv=>whnf)|(refine Br.mk (fun hc=>?_) fun hc=>?_<;>first|exact hc.elim|conv=>whnf)|(refine kB ?_))
 refine Ah (fun m env s=>∃(root c:Nat) (z:Int) (D:Array (Int×Int)),m=hi-root∧z=root∧root≤len∧siftDown CU hi first root D=siftDown CU hi first lo d∧D.size=len∧env=[(0,.own 3 g 0 len),(2,.int .i64 hi),(3,.int .i64 first),(4,.fn 77 []),(10,.int .i64 z)]∧s=⟨[AX,BA,BJ,.arr g 2 nn cl (vs A8 D.toList),BN],c⟩) ?_ _ _ _ ⟨lo,c,_,d,rfl,rfl,hlo,rfl,hl,rfl,rfl⟩
 rintro _ _ _ ⟨root,c,z,D,rfl,hz,hr,hD,hDl,rfl,rfl⟩
 refine⟨rfl,?_⟩
 (conv=>whnf);repeat' (first|((with_reducible show BX _ _ _);refine GI (first+root) ?_;conv=>whnf)|((with_reducible show BX _ _ _);refine GI (first+(2*root+1)) ?_;conv=>whnf)|((with_reducible show BX _ _ _);refine GI (first+(2*root+1)+1) ?_;conv=>whnf)|(refine Aa ET ?_;rintro _ rfl;conv=>whnf)|(refine Gh (fun hc=>?_) (fun hc=>?_)<;>conv=>whnf)|((with_reducible show eqK _ _);refine LW BG (first+root) ?_;conv=>whnf)|((with_reducible show eqK _ _);refine LW BG (first+(2*root+1)) ?_;conv=>whnf)|((with_reducible show eqK _ _);refine LW BG (first+(2*root+1)+1) ?_;conv=>whnf)|(refine kA ?_;conv=>whnf)|(refine Br.mk (fun hc=>?_) fun hc=>?_<;>first|exact hc.elim|conv=>whnf)|(refine kB ?_))
 ·rw[Wi (by omega)]at hD
  exact⟨_,rfl,by rw[hD]⟩
 all_goals first
  |(rw [Ags (by omega) (by assumption) hc]at hD
    exact again.mk ⟨_,by omega,2*root+2,_,_,swp D (first+root) (first+(2*root+2)),rfl,by omega,by omega,hD,by simpa using hDl,rfl,rfl⟩)
  |(rw [Ad8 (by omega) (by assumption) hc]at hD
    exact⟨_,rfl,by rw[hD]⟩)
  |(rw [AbY (by omega) (fun _=>by assumption) hc]at hD
    exact again.mk ⟨_,by omega,2*root+1,_,_,swp D (first+root) (first+(2*root+1)),rfl,by omega,by omega,hD,by simpa using hDl,rfl,rfl⟩)
  |(rw [YT (by omega) (fun _=>by assumption) hc]at hD
    exact⟨_,rfl,by rw[hD]⟩)
  |(rw [AbY (by omega) (fun h=>absurd h (by omega)) hc]at hD
    exact again.mk ⟨_,by omega,2*root+1,_,_,swp D (first+root) (first+(2*root+1)),rfl,by omega,by omega,hD,by simpa using hDl,rfl,rfl⟩)
  |(rw [YT (by omega) (fun h=>absurd h (by omega)) hc]at hD
    exact⟨_,rfl,by rw[hD]⟩)
set_option maxHeartbeats 1000000 in
theorem Aeh {AX BA BJ BN:Obj} {g c len:Nat} {nn cl:Bool} {d:Array (Int×Int)} {a n:Nat} {z:Int} {Q:Ar→Env→Ag→Prop} (hl:d.size=len) (hb:a+n≤len) (hs:len<2^61) (hz:z=(n:Int)-1)
 (hQ:∀c' e,Q (.exit 2) e ⟨[AX,BA,BJ,.arr g 2 nn cl (vs A8 (heapPop CU a n d).toList),BN],c'⟩):
 Run (Ac tab) (.loop l121_1_h l121_1_b) [(0,.own 3 g 0 len),(3,.fn 77 []),(8,.int .i64 a),(9,.int .i64 0),(12,.int .i64 z)] ⟨[AX,BA,BJ,.arr g 2 nn cl (vs A8 d.toList),BN],c⟩ Q:=by
 refine Ah (fun m env s=>∃(k c:Nat) (z:Int) (E:Array (Int×Int)),m=k∧z=(k:Int)-1∧a+k≤len∧heapPop CU a k E=heapPop CU a n d∧E.size=len∧env=[(0,.own 3 g 0 len),(3,.fn 77 []),(8,.int .i64 a),(9,.int .i64 0),(12,.int .i64 z)]∧s=⟨[AX,BA,BJ,.arr g 2 nn cl (vs A8 E.toList),BN],c⟩) ?_ _ _ _ ⟨n,c,_,d,rfl,hz,by omega,rfl,hl,rfl,rfl⟩
 clear hz
 rintro k _ _ ⟨_,c,z,E,rfl,hz,hk,hE,hEl,rfl,rfl⟩
 refine⟨rfl,?_⟩
 cases k with
 |succ k=>
  obtain rfl:z=(k:Nat):=by omega
  (conv=>whnf);repeat' (first|((with_reducible show BX _ _ _);refine GI (a) ?_;conv=>whnf)|((with_reducible show BX _ _ _);refine GI (a+k) ?_;conv=>whnf)|((with_reducible show eqK _ _);refine LW BG (a) ?_;conv=>whnf)|((with_reducible show eqK _ _);refine LW BG (a+k) ?_;conv=>whnf)|(refine kA ?_;conv=>whnf)|(refine Br.mk (fun hc=>?_) fun hc=>?_<;>first|exact hc.elim|conv=>whnf)|(refine kB ?_))
  refine(AbZ (d:=swp E a (a+k)) (lo:=0) (by simpa using hEl) (by omega) hs (by omega)).mono ?_
  rintro _ _ ⟨c',rfl,rfl⟩
  (conv=>whnf);repeat' (first  |(refine kA ?_;conv=>whnf)|(refine Br.mk (fun hc=>?_) fun hc=>?_<;>first|exact hc.elim|conv=>whnf)|(refine kB ?_))
  rw[heapPop]at hE
  exact again.mk ⟨_,by omega,k,_,(k:Int)-1,_,rfl,by omega,by omega,hE,by simpa using hEl,rfl,rfl⟩
 |zero=>
  rw[← hE]at hQ
  (conv=>whnf);repeat' (first  |(refine kA ?_;conv=>whnf)|(refine Br.mk (fun hc=>?_) fun hc=>?_<;>first|exact hc.elim|conv=>whnf)|(refine kB ?_))
  exact hQ _ _
theorem AgG {AX BA BJ BN:Obj} {g c len:Nat} {nn cl:Bool} {d:Array (Int×Int)} {a b:Nat} (hl:d.size=len) (hb:b≤len) (hs:len<2^61) (hab:a<b):
 AY (Ac tab) 121 [.own 3 g 0 len,.int .i64 a,.int .i64 b,.fn 77 []] ⟨[AX,BA,BJ,.arr g 2 nn cl (vs A8 d.toList),BN],c⟩ fun out s'=>∃c',out=.ok (.Du [])∧s'=⟨[AX,BA,BJ,.arr g 2 nn cl (vs A8 (heapSort CU d a b).toList),BN],c'⟩:=by
 refine AL rfl rfl ?_
 (conv=>whnf);repeat' (first|(refine TG (b-a-1) 2 (by omega) (by omega) ?_;conv=>whnf)|(refine kA ?_;conv=>whnf)|(refine Br.mk (fun hc=>?_) fun hc=>?_<;>first|exact hc.elim|conv=>whnf)|(refine kB ?_))
 refine Ah (fun m env s=>∃(k c:Nat) (z:Int) (D:Array (Int×Int)),m=k∧z=k-1∧k≤len∧heapBuild CU (b-a) a k D=heapBuild CU (b-a) a ((b-a-1) / 2+1) d∧D.size=len∧env=[(0,.own 3 g 0 len),(3,.fn 77 []),(8,.int .i64 a),(9,.int .i64 0),(10,.int .i64 (b-a)),(11,.int .i64 z)]∧s=⟨[AX,BA,BJ,.arr g 2 nn cl (vs A8 D.toList),BN],c⟩) ?_ _ _ _ ⟨(b-a-1) / 2+1,c,_,d,rfl,by omega,by omega,rfl,hl,rfl,rfl⟩
 rintro k _ _ ⟨_,c,z,D,rfl,hz,hk,hD,hDl,rfl,rfl⟩
 refine⟨rfl,?_⟩
 cases k with
 |succ k=>
  obtain rfl:z=(k:Nat):=by omega
  (conv=>whnf);repeat' (first  |(refine kA ?_;conv=>whnf)|(refine Br.mk (fun hc=>?_) fun hc=>?_<;>first|exact hc.elim|conv=>whnf)|(refine kB ?_))
  rw[show ((b:Int)-a)=((b-a:Nat):Int) by omega]
  refine(AbZ hDl (by omega) hs (by omega)).mono ?_
  rintro _ _ ⟨c',rfl,rfl⟩
  (conv=>whnf);repeat' (first  |(refine kA ?_;conv=>whnf)|(refine Br.mk (fun hc=>?_) fun hc=>?_<;>first|exact hc.elim|conv=>whnf)|(refine kB ?_))
  rw[heapBuild]at hD
  exact again.mk ⟨_,by omega,k,_,(k:Int)-1,_,rfl,by omega,by omega,hD,by simpa using hDl,rfl,rfl⟩
 |zero=>
  have hD:D=_:=hD
  (conv=>whnf);repeat' (first  |(refine kA ?_;conv=>whnf)|(refine Br.mk (fun hc=>?_) fun hc=>?_<;>first|exact hc.elim|conv=>whnf)|(refine kB ?_))
  refine Aeh hDl (n:=b-a) (by omega) hs (by omega) (fun c' e=>?_)
  (conv=>whnf);repeat' (first  |(refine kA ?_;conv=>whnf)|(refine Br.mk (fun hc=>?_) fun hc=>?_<;>first|exact hc.elim|conv=>whnf)|(refine kB ?_))
  exact⟨_,rfl,by rw[hD];rfl⟩
end
section
open Go.Sort
set_option maxRecDepth 100000 in
theorem AiT {n:Nat} (h:n<2^64):AQ (Ac tab) 116 [.int .u64 n] (· =.int .i64 (bitsLen n)):=by
 refine Ai rfl rfl ?_
 (conv=>whnf);repeat' (first|(apply Bj;(· first|exact AiU _|exact AiV _|exact AkS _);conv=>whnf)|(refine wrapN _ rfl rfl (by show _<256;omega) ?_;conv=>whnf)|(refine AkT (by omega) (fun hb=>?_);rw[AgY hb];conv=>whnf)|(refine kA ?_;conv=>whnf)|(refine Br.mk (fun hc=>?_) fun hc=>?_<;>first|exact hc.elim|conv=>whnf)|(refine kB ?_))
 all_goals
  show AV.int _ _=_
  congr 1
  first
   |(rw [← CJ 32 (n:=n) (by omega),←CJ 16 (n:=n / 2 ^ 32) (by omega),←CJ 8 (n:=n / 2 ^ 32 / 2 ^ 16) (by omega)];omega)
   |(rw [← CJ 32 (n:=n) (by omega),←CJ 16 (n:=n / 2 ^ 32) (by omega)];omega)
   |(rw [← CJ 32 (n:=n) (by omega),←CJ 8 (n:=n / 2 ^ 32) (by omega)];omega)
   |(rw [← CJ 32 (n:=n) (by omega)];omega)
   |(rw [← CJ 16 (n:=n) (by omega),←CJ 8 (n:=n / 2 ^ 16) (by omega)];omega)
   |(rw [← CJ 16 (n:=n) (by omega)];omega)
   |(rw [← CJ 8 (n:=n) (by omega)];omega)
   |omega
theorem WE {n:Nat} (h:n<2^63):AQ (Ac tab) 93 [.int .u64 n] (· =.int .i64 (bitsLen n)):=by
 refine Ai rfl rfl ?_
 (conv=>whnf);repeat' (first|(refine Aa (AiT (n:=n) (by omega)) ?_;rintro _ rfl;conv=>whnf)|(refine kA ?_;conv=>whnf)|(refine Br.mk (fun hc=>?_) fun hc=>?_<;>first|exact hc.elim|conv=>whnf)|(refine kB ?_))
 rfl
theorem Aaq {n:Nat} (h:n<2^62) (h0:0<n):AQ (Ac tab) 140 [.int .i64 n] (fun v=>∃M:Nat,v=.int .u64 M∧n<M∧M≤2*n):=by
 have h1:=lt_two_pow_bitsLen n
 have h2:=two_pow_bitsLen_le h0
 have h3:bitsLen n≤62:=(bitsLen_le_iff n 62).2 h
 refine Ai rfl rfl ?_
 (conv=>whnf);repeat' (first|(refine wrapN n rfl rfl (by show n<2^64;omega) ?_;conv=>whnf)|(refine Aa (WE (n:=n) (by omega)) ?_;rintro _ rfl;conv=>whnf)|(refine wrapN (2 ^ bitsLen n) rfl ?_ (by show _<2^64;omega) ?_;(· rw[Int.one_mul,Int.toNat_natCast,Nat.min_eq_left (by show _≤64;omega)];simp);conv=>whnf)|(refine kA ?_;conv=>whnf)|(refine Br.mk (fun hc=>?_) fun hc=>?_<;>first|exact hc.elim|conv=>whnf)|(refine kB ?_))
 exact⟨_,rfl,h1,h2⟩
end
section
open Go.Sort
theorem Ack {AX BA BJ BN:Obj} {g g2 c len:Nat} {nn cl:Bool} {d:Array (Int×Int)} {a b n:Nat} (hl:d.size=len) (ha:a<len) (hb:b<len) (hs:len<2^61) (hn:n<100):
 AY (Ac tab) 168 [.own 3 g 0 len,.int .i64 a,.int .i64 b,.ref 5 g2 0 0,.fn 77 []] ⟨[AX,BA,BJ,.arr g 2 nn cl (vs A8 d.toList),BN,.arr g2 1 true true [.int .i64 n]],c⟩ fun out s'=>∃(c' x y n':Nat),out=.ok (.Du [.int .i64 x,.int .i64 y])∧s'=⟨[AX,BA,BJ,.arr g 2 nn cl (vs A8 d.toList),BN,.arr g2 1 true true [.int .i64 n']],c'⟩∧n'≤n+1∧(x=a∧y=b∨x=b∧y=a):=by
 refine AL rfl rfl ?_
 (conv=>whnf);repeat' (first|((with_reducible show BX _ _ _);refine GI (a) ?_;conv=>whnf)|((with_reducible show BX _ _ _);refine GI (b) ?_;conv=>whnf)|(refine Aa ET ?_;rintro _ rfl;conv=>whnf)|(refine Gh (fun hc=>?_) (fun hc=>?_)<;>conv=>whnf)|(refine kA ?_;conv=>whnf)|(refine Br.mk (fun hc=>?_) fun hc=>?_<;>first|exact hc.elim|conv=>whnf)|(refine kB ?_))
 ·exact⟨_,b,a,n+1,rfl,rfl,by omega,Or.inr ⟨rfl,rfl⟩⟩
 ·exact⟨_,a,b,n,rfl,rfl,by omega,Or.inl ⟨rfl,rfl⟩⟩
theorem Acl {AX BA BJ BN:Obj} {g g2 c len:Nat} {nn cl:Bool} {d:Array (Int×Int)} {a b e n:Nat} (hl:d.size=len) (ha:a<len) (hb:b<len) (he:e<len) (hs:len<2^61) (hn:n<90):
 AY (Ac tab) 147 [.own 3 g 0 len,.int .i64 a,.int .i64 b,.int .i64 e,.ref 5 g2 0 0,.fn 77 []] ⟨[AX,BA,BJ,.arr g 2 nn cl (vs A8 d.toList),BN,.arr g2 1 true true [.int .i64 n]],c⟩ fun out s'=>∃(c' m n':Nat),out=.ok (.int .i64 m)∧s'=⟨[AX,BA,BJ,.arr g 2 nn cl (vs A8 d.toList),BN,.arr g2 1 true true [.int .i64 n']],c'⟩∧n'≤n+3∧(m=a∨m=b∨m=e):=by
 refine AL rfl rfl ?_
 (conv=>whnf);repeat' (first  |(refine kA ?_;conv=>whnf)|(refine Br.mk (fun hc=>?_) fun hc=>?_<;>first|exact hc.elim|conv=>whnf)|(refine kB ?_))
 refine(Ack hl ha hb hs (by omega)).mono ?_
 rintro _ _ ⟨c1,x1,y1,n1,rfl,rfl,h1,e1⟩
 conv=>whnf
 apply Aj rfl
 (conv=>whnf);repeat' (first  |(refine kA ?_;conv=>whnf)|(refine Br.mk (fun hc=>?_) fun hc=>?_<;>first|exact hc.elim|conv=>whnf)|(refine kB ?_))
 refine(Ack (a:=y1) (b:=e) hl (by omega) he hs (by omega)).mono ?_
 rintro _ _ ⟨c2,x2,y2,n2,rfl,rfl,h2,e2⟩
 conv=>whnf
 apply Aj rfl
 (conv=>whnf);repeat' (first  |(refine kA ?_;conv=>whnf)|(refine Br.mk (fun hc=>?_) fun hc=>?_<;>first|exact hc.elim|conv=>whnf)|(refine kB ?_))
 refine(Ack (a:=x1) (b:=x2) hl (by omega) (by omega) hs (by omega)).mono ?_
 rintro _ _ ⟨c3,x3,y3,n3,rfl,rfl,h3,e3⟩
 conv=>whnf
 apply Aj rfl
 (conv=>whnf);repeat' (first  |(refine kA ?_;conv=>whnf)|(refine Br.mk (fun hc=>?_) fun hc=>?_<;>first|exact hc.elim|conv=>whnf)|(refine kB ?_))
 exact⟨_,y3,n3,rfl,rfl,by omega,by omega⟩
theorem Acm {AX BA BJ BN:Obj} {g g2 c len:Nat} {nn cl:Bool} {d:Array (Int×Int)} {a n:Nat} (hl:d.size=len) (ha:a+1<len) (h0:0<a) (hs:len<2^61) (hn:n<90):
 AY (Ac tab) 146 [.own 3 g 0 len,.int .i64 a,.ref 5 g2 0 0,.fn 77 []] ⟨[AX,BA,BJ,.arr g 2 nn cl (vs A8 d.toList),BN,.arr g2 1 true true [.int .i64 n]],c⟩ fun out s'=>∃(c' m n':Nat),out=.ok (.int .i64 m)∧s'=⟨[AX,BA,BJ,.arr g 2 nn cl (vs A8 d.toList),BN,.arr g2 1 true true [.int .i64 n']],c'⟩∧n'≤n+3∧a≤m+1∧m≤a+1:=by
 refine AL rfl rfl ?_
 (conv=>whnf);repeat' (first  |(refine kA ?_;conv=>whnf)|(refine Br.mk (fun hc=>?_) fun hc=>?_<;>first|exact hc.elim|conv=>whnf)|(refine kB ?_))
 rw[show ((a:Int)-1)=((a-1:Nat):Int) by omega]
 refine(Acl (a:=a-1) (b:=a) (e:=a+1) hl (by omega) (by omega) ha hs hn).mono ?_
 rintro _ _ ⟨c',m,n',rfl,rfl,h1,h2⟩
 conv=>whnf
 apply Aj rfl
 (conv=>whnf);repeat' (first  |(refine kA ?_;conv=>whnf)|(refine Br.mk (fun hc=>?_) fun hc=>?_<;>first|exact hc.elim|conv=>whnf)|(refine kB ?_))
 exact⟨_,m,n',rfl,rfl,h1,by omega,by omega⟩
set_option maxHeartbeats 1000000 in
theorem Aiw {AX BA BJ BN:Obj} {g c len:Nat} {nn cl:Bool} {d:Array (Int×Int)} {a b:Nat} (hl:d.size=len) (hb:b≤len) (hab:a+12<b) (hs:len<2^61):
 AY (Ac tab) 123 [.own 3 g 0 len,.int .i64 a,.int .i64 b,.fn 77 []] ⟨[AX,BA,BJ,.arr g 2 nn cl (vs A8 d.toList),BN],c⟩ fun out s'=>∃(c' p:Nat) (h:Int) (ob:Obj),out=.ok (.Du [.int .i64 p,.int .i64 h])∧s'=⟨[AX,BA,BJ,.arr g 2 nn cl (vs A8 d.toList),BN,ob],c'⟩∧a≤p∧p<b:=by
 refine AL rfl rfl ?_
 have hq:(b-a) / 4*4≤b-a:=Nat.div_mul_le_self _ _
 have hq2:3≤(b-a) / 4:=by omega
 generalize hL:(b-a) / 4=L at hq hq2
 (conv=>whnf);repeat' (first|(refine TG (b-a) 4 (by omega) (by omega) ?_;rw[hL];conv=>whnf)|(refine kA ?_;conv=>whnf)|(refine Br.mk (fun hc=>?_) fun hc=>?_<;>first|exact hc.elim|conv=>whnf)|(refine kB ?_))
 ·refine(Acm (g2:=c) (n:=0) (a:=a+L*1) hl (by omega) (by omega) hs (by omega)).mono ?_
  rintro _ _ ⟨c1,i,n1,rfl,rfl,h1,i1,i2⟩
  conv=>whnf
  apply Aj rfl
  (conv=>whnf);repeat' (first  |(refine kA ?_;conv=>whnf)|(refine Br.mk (fun hc=>?_) fun hc=>?_<;>first|exact hc.elim|conv=>whnf)|(refine kB ?_))
  refine(Acm (g2:=c) (a:=a+L*2) hl (by omega) (by omega) hs (by omega)).mono ?_
  rintro _ _ ⟨c2,j,n2,rfl,rfl,h2,j1,j2⟩
  conv=>whnf
  apply Aj rfl
  (conv=>whnf);repeat' (first  |(refine kA ?_;conv=>whnf)|(refine Br.mk (fun hc=>?_) fun hc=>?_<;>first|exact hc.elim|conv=>whnf)|(refine kB ?_))
  refine(Acm (g2:=c) (a:=a+L*3) hl (by omega) (by omega) hs (by omega)).mono ?_
  rintro _ _ ⟨c3,k,n3,rfl,rfl,h3,k1,k2⟩
  conv=>whnf
  apply Aj rfl
  (conv=>whnf);repeat' (first  |(refine kA ?_;conv=>whnf)|(refine Br.mk (fun hc=>?_) fun hc=>?_<;>first|exact hc.elim|conv=>whnf)|(refine kB ?_))
  refine(Acl (g2:=c) (a:=i) (b:=j) (e:=k) hl (by omega) (by omega) (by omega) hs (by omega)).mono ?_
  rintro _ _ ⟨c4,m,n4,rfl,rfl,h4,h5⟩
  conv=>whnf
  apply Aj rfl
  (conv=>whnf);repeat' (first  |(refine kA ?_;conv=>whnf)|(refine Br.mk (fun hc=>?_) fun hc=>?_<;>first|exact hc.elim|conv=>whnf)|(refine kB ?_))
  all_goals exact⟨_,m,_,_,rfl,rfl,by omega,by omega⟩
 ·refine(Acl (g2:=c) (n:=0) (a:=a+L*1) (b:=a+L*2) (e:=a+L*3) hl (by omega) (by omega) (by omega) hs (by omega)).mono ?_
  rintro _ _ ⟨c4,m,n4,rfl,rfl,h4,h5⟩
  conv=>whnf
  apply Aj rfl
  (conv=>whnf);repeat' (first  |(refine kA ?_;conv=>whnf)|(refine Br.mk (fun hc=>?_) fun hc=>?_<;>first|exact hc.elim|conv=>whnf)|(refine kB ?_))
  all_goals exact⟨_,m,_,_,rfl,rfl,by omega,by omega⟩
theorem Aiv {AX BA BJ BN:Obj} {g c len:Nat} {nn cl:Bool} {d:Array (Int×Int)} {a b:Nat} (hl:d.size=len) (hb:b≤len) (hab:a<b) (hs:len<2^61):
 AY (Ac tab) 124 [.own 3 g 0 len,.int .i64 a,.int .i64 b,.fn 77 []] ⟨[AX,BA,BJ,.arr g 2 nn cl (vs A8 d.toList),BN],c⟩ fun out s'=>∃c' D,out=.ok (.Du [])∧s'=⟨[AX,BA,BJ,.arr g 2 nn cl (vs A8 D.toList),BN],c'⟩∧PermIn a b d D:=by
 refine AL rfl rfl ?_
 (conv=>whnf);repeat' (first  |(refine kA ?_;conv=>whnf)|(refine Br.mk (fun hc=>?_) fun hc=>?_<;>first|exact hc.elim|conv=>whnf)|(refine kB ?_))
 refine Ah (fun m env s=>∃(i c:Nat) (z:Int) (D:Array (Int×Int)),m=b-i∧a≤i∧i≤b∧z=(a:Int)+b-1-i∧PermIn a b d D∧env=[(0,.own 3 g 0 len),(8,.int .i64 i),(9,.int .i64 z)]∧s=⟨[AX,BA,BJ,.arr g 2 nn cl (vs A8 D.toList),BN],c⟩) ?_ _ _ _ ⟨a,c,_,d,rfl,by omega,by omega,by omega,permIn_refl _ _ _,rfl,rfl⟩
 rintro _ _ _ ⟨i,c,z,D,rfl,hi,hib,hz,hD,rfl,rfl⟩
 refine⟨rfl,?_⟩
 have hDl:D.size=len:=by rw[hD.1,hl]
 (conv=>whnf);repeat' (first|((with_reducible show BX _ _ _);refine GI (i) ?_;conv=>whnf)|((with_reducible show BX _ _ _);refine GI (a+b-1-i) ?_;conv=>whnf)|((with_reducible show eqK _ _);refine LW BG (i) ?_;conv=>whnf)|((with_reducible show eqK _ _);refine LW BG (a+b-1-i) ?_;conv=>whnf)|(refine kA ?_;conv=>whnf)|(refine Br.mk (fun hc=>?_) fun hc=>?_<;>first|exact hc.elim|conv=>whnf)|(refine kB ?_))
 ·exact again.mk ⟨_,by omega,i+1,_,z-1,swp D i (a+b-1-i),rfl,by omega,by omega,by omega,permIn_trans _ _ _ _ _ hD (swp_permIn _ _ _ _ _ (by omega) (by omega) (by omega) (by omega) (by omega)),rfl,rfl⟩
 ·exact⟨_,D,rfl,rfl,hD⟩
theorem AgT {AX BA BJ BN:Obj} {obX:Obj} {g2 c:Nat} {r:Int}:
 AY (Ac tab) 141 [.ref 5 g2 0 0] ⟨[AX,BA,BJ,  obX,BN,.arr g2 1 true true [.int .u64 r]],c⟩ fun out s'=>∃c' r',out=.ok (.int .u64 r')∧s'=⟨[AX,BA,BJ,  obX,BN,.arr g2 1 true true [.int .u64 r']],c'⟩:=by
 refine AL rfl rfl ?_
 (conv=>whnf);repeat' (first|(apply Bj rfl;conv=>whnf)|(apply CG rfl;conv=>whnf)|(refine kA ?_;conv=>whnf)|(refine Br.mk (fun hc=>?_) fun hc=>?_<;>first|exact hc.elim|conv=>whnf)|(refine kB ?_))
 exact⟨_,_,rfl,rfl⟩
theorem AiP {r:Int} {M:Nat} (h0:0<M) (h:M<2^63):∃n:Nat,IntKind.u64.wrap ((BitVec.ofInt IntKind.u64.bits r &&& BitVec.ofInt IntKind.u64.bits ((M-1:Nat):Int)).toNat:Int)=n∧n<M:=by
 have e:(BitVec.ofInt IntKind.u64.bits ((M-1:Nat):Int)).toNat=M-1:=by
  rw[BitVec.toNat_ofInt]
  show Int.toNat (((M-1:Nat):Int) % ((2 ^ 64:Nat):Int))=M-1
  omega
 refine⟨(BitVec.ofInt IntKind.u64.bits r &&& BitVec.ofInt IntKind.u64.bits ((M-1:Nat):Int)).toNat,Acn rfl (by omega) ?_,?_⟩
 ·rw[BitVec.toNat_and,e]
  have:=@Nat.and_le_right (BitVec.ofInt IntKind.u64.bits r).toNat (M-1)
  show _<(2:Int) ^ 64
  omega
 ·rw[BitVec.toNat_and,e]
  have:=@Nat.and_le_right (BitVec.ofInt IntKind.u64.bits r).toNat (M-1)
  omega
set_option maxHeartbeats 1000000 in
theorem Aix {AX BA BJ BN:Obj} {g c len:Nat} {nn cl:Bool} {d:Array (Int×Int)} {a b:Nat} (hl:d.size=len) (hb:b≤len) (hab:a+12<b) (hs:len<2^61):
 AY (Ac tab) 122 [.own 3 g 0 len,.int .i64 a,.int .i64 b,.fn 77 []] ⟨[AX,BA,BJ,.arr g 2 nn cl (vs A8 d.toList),BN],c⟩ fun out s'=>∃c' D ob,out=.ok (.Du [])∧s'=⟨[AX,BA,BJ,.arr g 2 nn cl (vs A8 D.toList),BN,ob],c'⟩∧PermIn a b d D:=by
 refine AL rfl rfl ?_
 have hq:(b-a) / 4*4≤b-a:=Nat.div_mul_le_self _ _
 have hq2:3≤(b-a) / 4:=by omega
 generalize hL:(b-a) / 4=L at hq hq2
 (conv=>whnf);repeat' (first|(refine TG (b-a) 4 (by omega) (by omega) ?_;rw[hL];conv=>whnf)|(refine wrapN (b-a) rfl (by omega) (by show _<2^64;omega) ?_;conv=>whnf)|(refine kA ?_;conv=>whnf)|(refine Br.mk (fun hc=>?_) fun hc=>?_<;>first|exact hc.elim|conv=>whnf)|(refine kB ?_))
 rw[show ((b:Int)-a)=((b-a:Nat):Int) by omega]
 refine Aa (Aaq (n:=b-a) (by omega) (by omega)) ?_
 rintro _ ⟨M,rfl,hM1,hM2⟩
 (conv=>whnf);repeat' (first|(refine TG (b-a) 4 (by omega) (by omega) ?_;rw[hL];conv=>whnf)|(refine kA ?_;conv=>whnf)|(refine Br.mk (fun hc=>?_) fun hc=>?_<;>first|exact hc.elim|conv=>whnf)|(refine kB ?_))
 refine Ah (fun m env s=>∃(k cc:Nat) (z r:Int) (D:Array (Int×Int)),m=3-k∧k≤3∧z=(a:Int)+L*2-1+k∧PermIn a b d D∧env=[(0,.own 3 g 0 len),(1,.int .i64 a),(8,.int .i64 (b-a:Nat)),(9,.ref 5 c 0 0),(10,.int .u64 M),(11,.int .i64 z)]∧s=⟨[AX,BA,BJ,.arr g 2 nn cl (vs A8 D.toList),BN,.arr c 1 true true [.int .u64 r]],cc⟩) ?_ _ _ _ ⟨0,_,_,((b-a:Nat):Int),d,rfl,by omega,by omega,permIn_refl _ _ _,rfl,rfl⟩
 rintro _ _ _ ⟨k,c1,z,r,D,rfl,hk,hz,hD,rfl,rfl⟩
 refine⟨rfl,?_⟩
 have hDl:D.size=len:=by rw[hD.1,hl]
 (conv=>whnf);repeat' (first|(refine TG (b-a) 4 (by omega) (by omega) ?_;rw[hL];conv=>whnf)|(refine kA ?_;conv=>whnf)|(refine Br.mk (fun hc=>?_) fun hc=>?_<;>first|exact hc.elim|conv=>whnf)|(refine kB ?_))
 ·refine(AgT).mono ?_
  rintro _ _ ⟨c2,r2,rfl,rfl⟩
  obtain⟨o,ho1,ho2⟩:=AiP (r:=r2) (M:=M) (by omega) (by omega)
  conv=>whnf
  apply Aj rfl
  (conv=>whnf);repeat' (first|(refine wrapN (M-1) rfl (by omega) (by show _<2^64;omega) ?_;conv=>whnf)|(apply Bj ho1;conv=>whnf)|(refine CG (wrap_i64 (by omega) (by omega)) ?_;conv=>whnf)|((with_reducible show BX _ _ _);refine GI (a+(o-(b-a))) ?_;conv=>whnf)|((with_reducible show BX _ _ _);refine GI (a+o) ?_;conv=>whnf)|((with_reducible show BX _ _ _);refine GI (a+L*2-1+k) ?_;conv=>whnf)|((with_reducible show eqK _ _);refine LW BG (a+(o-(b-a))) ?_;conv=>whnf)|((with_reducible show eqK _ _);refine LW BG (a+o) ?_;conv=>whnf)|((with_reducible show eqK _ _);refine LW BG (a+L*2-1+k) ?_;conv=>whnf)|(refine kA ?_;conv=>whnf)|(refine Br.mk (fun hc=>?_) fun hc=>?_<;>first|exact hc.elim|conv=>whnf)|(refine kB ?_))
  ·exact again.mk ⟨_,by omega,k+1,_,_,_,swp D (a+L*2-1+k) (a+(o-(b-a))),rfl,by omega,by omega,permIn_trans _ _ _ _ _ hD (swp_permIn _ _ _ _ _ (by omega) (by omega) (by omega) (by omega) (by omega)),rfl,rfl⟩
  ·exact again.mk ⟨_,by omega,k+1,_,_,_,swp D (a+L*2-1+k) (a+o),rfl,by omega,by omega,permIn_trans _ _ _ _ _ hD (swp_permIn _ _ _ _ _ (by omega) (by omega) (by omega) (by omega) (by omega)),rfl,rfl⟩
 ·exact⟨_,D,_,rfl,rfl,hD⟩
end
end AI
end Go.Proofs.YtjjhejbffgaabaaGreatDoor
