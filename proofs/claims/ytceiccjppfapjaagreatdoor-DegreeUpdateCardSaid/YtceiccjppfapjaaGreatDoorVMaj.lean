/- Sorting in place (Ordered[string]): the pivot, reversing, breaking patterns. Sorting in place (Ordered[string]): sorted or nearly so; the partitions. -/
import Derived.Test.YtceiccjppfapjaaGreatDoorVMai
import Derived.Test.YtceiccjppfapjaaGreatDoorVMad
set_option linter.unusedVariables false
set_option maxRecDepth 4000
namespace Go.Proofs.YtceiccjppfapjaaGreatDoor
namespace AI
section
open Go.Sort
theorem Ahk {AX:Obj} {g g2 c len:Nat} {nn cl:Bool} {d:Array (List UInt8)} {a b n:Nat} (hl:d.size=len) (ha:a<len) (hb:b<len) (hs:len<2^61) (hn:n<100):
 Au (Ad tab) 356 [.own 1 g 0 len,.int .i64 a,.int .i64 b,.ref 2 g2 0 0] ⟨[AX,.arr g 1 nn cl (vs .str d.toList),.arr g2 1 true true [.int .i64 n]],c⟩ fun out s'=>∃(c' x y n':Nat),out=.ok (.BH [.int .i64 x,.int .i64 y])∧s'=⟨[AX,.arr g 1 nn cl (vs .str d.toList),.arr g2 1 true true [.int .i64 n']],c'⟩∧n'≤n+1∧(x=a∧y=b∨x=b∧y=a):=by
 refine Ah rfl rfl ?_
 (conv=>whnf);repeat' (first|((with_reducible show Bq _ _ _);refine DT (a) ?_;conv=>whnf)|((with_reducible show Bq _ _ _);refine DT (b) ?_;conv=>whnf)|(refine IE Iw (fun hc=>?_) (fun hc=>?_)<;>conv=>whnf)|(refine kA ?_;conv=>whnf)|(refine Br.mk (fun hc=>?_) fun hc=>?_<;>first|exact hc.elim|conv=>whnf)|(refine kB ?_))
 ·exact⟨_,b,a,n+1,rfl,rfl,by omega,Or.inr ⟨rfl,rfl⟩⟩
 ·exact⟨_,a,b,n,rfl,rfl,by omega,Or.inl ⟨rfl,rfl⟩⟩
theorem Ahl {AX:Obj} {g g2 c len:Nat} {nn cl:Bool} {d:Array (List UInt8)} {a b e n:Nat} (hl:d.size=len) (ha:a<len) (hb:b<len) (he:e<len) (hs:len<2^61) (hn:n<90):
 Au (Ad tab) 327 [.own 1 g 0 len,.int .i64 a,.int .i64 b,.int .i64 e,.ref 2 g2 0 0] ⟨[AX,.arr g 1 nn cl (vs .str d.toList),.arr g2 1 true true [.int .i64 n]],c⟩ fun out s'=>∃(c' m n':Nat),out=.ok (.int .i64 m)∧s'=⟨[AX,.arr g 1 nn cl (vs .str d.toList),.arr g2 1 true true [.int .i64 n']],c'⟩∧n'≤n+3∧(m=a∨m=b∨m=e):=by
 refine Ah rfl rfl ?_
 (conv=>whnf);repeat' (first  |(refine kA ?_;conv=>whnf)|(refine Br.mk (fun hc=>?_) fun hc=>?_<;>first|exact hc.elim|conv=>whnf)|(refine kB ?_))
 refine(Ahk hl ha hb hs (by omega)).mono ?_
 rintro _ _ ⟨c1,x1,y1,n1,rfl,rfl,h1,e1⟩
 conv=>whnf
 apply Ag rfl
 (conv=>whnf);repeat' (first  |(refine kA ?_;conv=>whnf)|(refine Br.mk (fun hc=>?_) fun hc=>?_<;>first|exact hc.elim|conv=>whnf)|(refine kB ?_))
 refine(Ahk (a:=y1) (b:=e) hl (by omega) he hs (by omega)).mono ?_
 rintro _ _ ⟨c2,x2,y2,n2,rfl,rfl,h2,e2⟩
 conv=>whnf
 apply Ag rfl
 (conv=>whnf);repeat' (first  |(refine kA ?_;conv=>whnf)|(refine Br.mk (fun hc=>?_) fun hc=>?_<;>first|exact hc.elim|conv=>whnf)|(refine kB ?_))
 refine(Ahk (a:=x1) (b:=x2) hl (by omega) (by omega) hs (by omega)).mono ?_
 rintro _ _ ⟨c3,x3,y3,n3,rfl,rfl,h3,e3⟩
 conv=>whnf
 apply Ag rfl
 (conv=>whnf);repeat' (first  |(refine kA ?_;conv=>whnf)|(refine Br.mk (fun hc=>?_) fun hc=>?_<;>first|exact hc.elim|conv=>whnf)|(refine kB ?_))
 exact⟨_,y3,n3,rfl,rfl,by omega,by omega⟩
theorem Ahm {AX:Obj} {g g2 c len:Nat} {nn cl:Bool} {d:Array (List UInt8)} {a n:Nat} (hl:d.size=len) (ha:a+1<len) (h0:0<a) (hs:len<2^61) (hn:n<90):
 Au (Ad tab) 326 [.own 1 g 0 len,.int .i64 a,.ref 2 g2 0 0] ⟨[AX,.arr g 1 nn cl (vs .str d.toList),.arr g2 1 true true [.int .i64 n]],c⟩ fun out s'=>∃(c' m n':Nat),out=.ok (.int .i64 m)∧s'=⟨[AX,.arr g 1 nn cl (vs .str d.toList),.arr g2 1 true true [.int .i64 n']],c'⟩∧n'≤n+3∧a≤m+1∧m≤a+1:=by
 refine Ah rfl rfl ?_
 (conv=>whnf);repeat' (first  |(refine kA ?_;conv=>whnf)|(refine Br.mk (fun hc=>?_) fun hc=>?_<;>first|exact hc.elim|conv=>whnf)|(refine kB ?_))
 rw[show ((a:Int)-1)=((a-1:Nat):Int) by omega]
 refine(Ahl (a:=a-1) (b:=a) (e:=a+1) hl (by omega) (by omega) ha hs hn).mono ?_
 rintro _ _ ⟨c',m,n',rfl,rfl,h1,h2⟩
 conv=>whnf
 apply Ag rfl
 (conv=>whnf);repeat' (first  |(refine kA ?_;conv=>whnf)|(refine Br.mk (fun hc=>?_) fun hc=>?_<;>first|exact hc.elim|conv=>whnf)|(refine kB ?_))
 exact⟨_,m,n',rfl,rfl,h1,by omega,by omega⟩
set_option maxHeartbeats 1000000 in
theorem ApD {AX:Obj} {g c len:Nat} {nn cl:Bool} {d:Array (List UInt8)} {a b:Nat} (hl:d.size=len) (hb:b≤len) (hab:a+12<b) (hs:len<2^61):
 Au (Ad tab) 279 [.own 1 g 0 len,.int .i64 a,.int .i64 b] ⟨[AX,.arr g 1 nn cl (vs .str d.toList)],c⟩ fun out s'=>∃(c' p:Nat) (h:Int) (ob:Obj),out=.ok (.BH [.int .i64 p,.int .i64 h])∧s'=⟨[AX,.arr g 1 nn cl (vs .str d.toList),ob],c'⟩∧a≤p∧p<b:=by
 refine Ah rfl rfl ?_
 have hq:(b-a) / 4*4≤b-a:=Nat.div_mul_le_self _ _
 have hq2:3≤(b-a) / 4:=by omega
 generalize hL:(b-a) / 4=L at hq hq2
 (conv=>whnf);repeat' (first|(refine Nz (b-a) 4 (by omega) (by omega) ?_;rw[hL];conv=>whnf)|(refine kA ?_;conv=>whnf)|(refine Br.mk (fun hc=>?_) fun hc=>?_<;>first|exact hc.elim|conv=>whnf)|(refine kB ?_))
 ·refine(Ahm (g2:=c) (n:=0) (a:=a+L*1) hl (by omega) (by omega) hs (by omega)).mono ?_
  rintro _ _ ⟨c1,i,n1,rfl,rfl,h1,i1,i2⟩
  conv=>whnf
  apply Ag rfl
  (conv=>whnf);repeat' (first  |(refine kA ?_;conv=>whnf)|(refine Br.mk (fun hc=>?_) fun hc=>?_<;>first|exact hc.elim|conv=>whnf)|(refine kB ?_))
  refine(Ahm (g2:=c) (a:=a+L*2) hl (by omega) (by omega) hs (by omega)).mono ?_
  rintro _ _ ⟨c2,j,n2,rfl,rfl,h2,j1,j2⟩
  conv=>whnf
  apply Ag rfl
  (conv=>whnf);repeat' (first  |(refine kA ?_;conv=>whnf)|(refine Br.mk (fun hc=>?_) fun hc=>?_<;>first|exact hc.elim|conv=>whnf)|(refine kB ?_))
  refine(Ahm (g2:=c) (a:=a+L*3) hl (by omega) (by omega) hs (by omega)).mono ?_
  rintro _ _ ⟨c3,k,n3,rfl,rfl,h3,k1,k2⟩
  conv=>whnf
  apply Ag rfl
  (conv=>whnf);repeat' (first  |(refine kA ?_;conv=>whnf)|(refine Br.mk (fun hc=>?_) fun hc=>?_<;>first|exact hc.elim|conv=>whnf)|(refine kB ?_))
  refine(Ahl (g2:=c) (a:=i) (b:=j) (e:=k) hl (by omega) (by omega) (by omega) hs (by omega)).mono ?_
  rintro _ _ ⟨c4,m,n4,rfl,rfl,h4,h5⟩
  conv=>whnf
  apply Ag rfl
  (conv=>whnf);repeat' (first  |(refine kA ?_;conv=>whnf)|(refine Br.mk (fun hc=>?_) fun hc=>?_<;>first|exact hc.elim|conv=>whnf)|(refine kB ?_))
  all_goals exact⟨_,m,_,_,rfl,rfl,by omega,by omega⟩
 ·refine(Ahl (g2:=c) (n:=0) (a:=a+L*1) (b:=a+L*2) (e:=a+L*3) hl (by omega) (by omega) (by omega) hs (by omega)).mono ?_
  rintro _ _ ⟨c4,m,n4,rfl,rfl,h4,h5⟩
  conv=>whnf
  apply Ag rfl
  (conv=>whnf);repeat' (first  |(refine kA ?_;conv=>whnf)|(refine Br.mk (fun hc=>?_) fun hc=>?_<;>first|exact hc.elim|conv=>whnf)|(refine kB ?_))
  all_goals exact⟨_,m,_,_,rfl,rfl,by omega,by omega⟩
theorem ApE {AX:Obj} {g c len:Nat} {nn cl:Bool} {d:Array (List UInt8)} {a b:Nat} (hl:d.size=len) (hb:b≤len) (hab:a<b) (hs:len<2^61):
 Au (Ad tab) 280 [.own 1 g 0 len,.int .i64 a,.int .i64 b] ⟨[AX,.arr g 1 nn cl (vs .str d.toList)],c⟩ fun out s'=>∃c' D,out=.ok (.BH [])∧s'=⟨[AX,.arr g 1 nn cl (vs .str D.toList)],c'⟩∧PermIn a b d D:=by
 refine Ah rfl rfl ?_
 (conv=>whnf);repeat' (first  |(refine kA ?_;conv=>whnf)|(refine Br.mk (fun hc=>?_) fun hc=>?_<;>first|exact hc.elim|conv=>whnf)|(refine kB ?_))
 refine Ae (fun m env s=>∃(i c:Nat) (z:Int) (D:Array (List UInt8)),m=b-i∧a≤i∧i≤b∧z=(a:Int)+b-1-i∧PermIn a b d D∧env=[(0,.own 1 g 0 len),(6,.int .i64 i),(7,.int .i64 z)]∧s=⟨[AX,.arr g 1 nn cl (vs .str D.toList)],c⟩) ?_ _ _ _ ⟨a,c,_,d,rfl,by omega,by omega,by omega,permIn_refl _ _ _,rfl,rfl⟩
 rintro _ _ _ ⟨i,c,z,D,rfl,hi,hib,hz,hD,rfl,rfl⟩
 refine⟨rfl,?_⟩
 have hDl:D.size=len:=by rw[hD.1,hl]
 (conv=>whnf);repeat' (first|((with_reducible show Bq _ _ _);refine DT (i) ?_;conv=>whnf)|((with_reducible show Bq _ _ _);refine DT (a+b-1-i) ?_;conv=>whnf)|((with_reducible show eqK _ _);refine Hl cellsS (i) ?_;conv=>whnf)|((with_reducible show eqK _ _);refine Hl cellsS (a+b-1-i) ?_;conv=>whnf)|(refine kA ?_;conv=>whnf)|(refine Br.mk (fun hc=>?_) fun hc=>?_<;>first|exact hc.elim|conv=>whnf)|(refine kB ?_))
 ·exact again.mk ⟨_,by omega,i+1,_,z-1,swp D i (a+b-1-i),rfl,by omega,by omega,by omega,permIn_trans _ _ _ _ _ hD (swp_permIn _ _ _ _ _ (by omega) (by omega) (by omega) (by omega) (by omega)),rfl,rfl⟩
 ·exact⟨_,D,rfl,rfl,hD⟩
theorem AmO {AX:Obj} {obX:Obj} {g2 c:Nat} {r:Int}:
 Au (Ad tab) 273 [.ref 2 g2 0 0] ⟨[AX,  obX,.arr g2 1 true true [.int .u64 r]],c⟩ fun out s'=>∃c' r',out=.ok (.int .u64 r')∧s'=⟨[AX,  obX,.arr g2 1 true true [.int .u64 r']],c'⟩:=by
 refine Ah rfl rfl ?_
 (conv=>whnf);repeat' (first|(apply BG rfl;conv=>whnf)|(apply BQ rfl;conv=>whnf)|(refine kA ?_;conv=>whnf)|(refine Br.mk (fun hc=>?_) fun hc=>?_<;>first|exact hc.elim|conv=>whnf)|(refine kB ?_))
 exact⟨_,_,rfl,rfl⟩
theorem AsI {r:Int} {M:Nat} (h0:0<M) (h:M<2^63):∃n:Nat,IntKind.u64.wrap ((BitVec.ofInt IntKind.u64.bits r &&& BitVec.ofInt IntKind.u64.bits ((M-1:Nat):Int)).toNat:Int)=n∧n<M:=by
 have e:(BitVec.ofInt IntKind.u64.bits ((M-1:Nat):Int)).toNat=M-1:=by
  rw[BitVec.toNat_ofInt]
  show Int.toNat (((M-1:Nat):Int) % ((2 ^ 64:Nat):Int))=M-1
  omega
 refine⟨(BitVec.ofInt IntKind.u64.bits r &&& BitVec.ofInt IntKind.u64.bits ((M-1:Nat):Int)).toNat,Acg rfl (by omega) ?_,?_⟩
 ·rw[BitVec.toNat_and,e]
  have:=@Nat.and_le_right (BitVec.ofInt IntKind.u64.bits r).toNat (M-1)
  show _<(2:Int) ^ 64
  omega
 ·rw[BitVec.toNat_and,e]
  have:=@Nat.and_le_right (BitVec.ofInt IntKind.u64.bits r).toNat (M-1)
  omega
set_option maxHeartbeats 1000000 in
theorem ApG {AX:Obj} {g c len:Nat} {nn cl:Bool} {d:Array (List UInt8)} {a b:Nat} (hl:d.size=len) (hb:b≤len) (hab:a+12<b) (hs:len<2^61):
 Au (Ad tab) 278 [.own 1 g 0 len,.int .i64 a,.int .i64 b] ⟨[AX,.arr g 1 nn cl (vs .str d.toList)],c⟩ fun out s'=>∃c' D ob,out=.ok (.BH [])∧s'=⟨[AX,.arr g 1 nn cl (vs .str D.toList),ob],c'⟩∧PermIn a b d D:=by
 refine Ah rfl rfl ?_
 have hq:(b-a) / 4*4≤b-a:=Nat.div_mul_le_self _ _
 have hq2:3≤(b-a) / 4:=by omega
 generalize hL:(b-a) / 4=L at hq hq2
 (conv=>whnf);repeat' (first|(refine Nz (b-a) 4 (by omega) (by omega) ?_;rw[hL];conv=>whnf)|(refine wrapN (b-a) rfl (by omega) (by show _<2^64;omega) ?_;conv=>whnf)|(refine kA ?_;conv=>whnf)|(refine Br.mk (fun hc=>?_) fun hc=>?_<;>first|exact hc.elim|conv=>whnf)|(refine kB ?_))
 rw[show ((b:Int)-a)=((b-a:Nat):Int) by omega]
 refine Aa (X6 (n:=b-a) (by omega) (by omega)) ?_
 rintro _ ⟨M,rfl,hM1,hM2⟩
 (conv=>whnf);repeat' (first|(refine Nz (b-a) 4 (by omega) (by omega) ?_;rw[hL];conv=>whnf)|(refine kA ?_;conv=>whnf)|(refine Br.mk (fun hc=>?_) fun hc=>?_<;>first|exact hc.elim|conv=>whnf)|(refine kB ?_))
 refine Ae (fun m env s=>∃(k cc:Nat) (z r:Int) (D:Array (List UInt8)),m=3-k∧k≤3∧z=(a:Int)+L*2-1+k∧PermIn a b d D∧env=[(0,.own 1 g 0 len),(1,.int .i64 a),(6,.int .i64 (b-a:Nat)),(7,.ref 2 c 0 0),(8,.int .u64 M),(9,.int .i64 z)]∧s=⟨[AX,.arr g 1 nn cl (vs .str D.toList),.arr c 1 true true [.int .u64 r]],cc⟩) ?_ _ _ _ ⟨0,_,_,((b-a:Nat):Int),d,rfl,by omega,by omega,permIn_refl _ _ _,rfl,rfl⟩
 rintro _ _ _ ⟨k,c1,z,r,D,rfl,hk,hz,hD,rfl,rfl⟩
 refine⟨rfl,?_⟩
 have hDl:D.size=len:=by rw[hD.1,hl]
 (conv=>whnf);repeat' (first|(refine Nz (b-a) 4 (by omega) (by omega) ?_;rw[hL];conv=>whnf)|(refine kA ?_;conv=>whnf)|(refine Br.mk (fun hc=>?_) fun hc=>?_<;>first|exact hc.elim|conv=>whnf)|(refine kB ?_))
 ·refine(AmO).mono ?_
  rintro _ _ ⟨c2,r2,rfl,rfl⟩
  obtain⟨o,ho1,ho2⟩:=AsI (r:=r2) (M:=M) (by omega) (by omega)
  conv=>whnf
  apply Ag rfl
  (conv=>whnf);repeat' (first|(refine wrapN (M-1) rfl (by omega) (by show _<2^64;omega) ?_;conv=>whnf)|(apply BG ho1;conv=>whnf)|(refine BQ (wrap_i64 (by omega) (by omega)) ?_;conv=>whnf)|((with_reducible show Bq _ _ _);refine DT (a+(o-(b-a))) ?_;conv=>whnf)|((with_reducible show Bq _ _ _);refine DT (a+o) ?_;conv=>whnf)|((with_reducible show Bq _ _ _);refine DT (a+L*2-1+k) ?_;conv=>whnf)|((with_reducible show eqK _ _);refine Hl cellsS (a+(o-(b-a))) ?_;conv=>whnf)|((with_reducible show eqK _ _);refine Hl cellsS (a+o) ?_;conv=>whnf)|((with_reducible show eqK _ _);refine Hl cellsS (a+L*2-1+k) ?_;conv=>whnf)|(refine kA ?_;conv=>whnf)|(refine Br.mk (fun hc=>?_) fun hc=>?_<;>first|exact hc.elim|conv=>whnf)|(refine kB ?_))
  ·exact again.mk ⟨_,by omega,k+1,_,_,_,swp D (a+L*2-1+k) (a+(o-(b-a))),rfl,by omega,by omega,permIn_trans _ _ _ _ _ hD (swp_permIn _ _ _ _ _ (by omega) (by omega) (by omega) (by omega) (by omega)),rfl,rfl⟩
  ·exact again.mk ⟨_,by omega,k+1,_,_,_,swp D (a+L*2-1+k) (a+o),rfl,by omega,by omega,permIn_trans _ _ _ _ _ hD (swp_permIn _ _ _ _ _ (by omega) (by omega) (by omega) (by omega) (by omega)),rfl,rfl⟩
 ·exact⟨_,D,_,rfl,rfl,hD⟩
end
section
open Go.Sort
theorem Ah2 {AX:Obj} {g c len:Nat} {nn cl:Bool} {d:Array (List UInt8)} {a b i:Nat} {z:Int} {Q:AA→Env→Ap→Prop} (hl:d.size=len) (hb:b≤len) (hs:len<2^61) (hi:0<i) (hib:i≤b)
 (hQ:∀c' k tl,k=scanSorted Df d b i→i≤k→k≤b→Q (.exit 2) ([(0,.own 1 g 0 len),(1,.int .i64 a),(2,.int .i64 b),(7,.int .i64 k),(8,.int .i64 z)]++tl) ⟨[AX,.arr g 1 nn cl (vs .str d.toList)],c'⟩):
 Run (Ad tab) (.loop l281_0_h l281_0_b) [(0,.own 1 g 0 len),(1,.int .i64 a),(2,.int .i64 b),(7,.int .i64 i),(8,.int .i64 z)] ⟨[AX,.arr g 1 nn cl (vs .str d.toList)],c⟩ Q:=by
 refine Ae (fun m env s=>∃(k c:Nat),m=b-k∧i≤k∧k≤b∧scanSorted Df d b k=scanSorted Df d b i∧env=[(0,.own 1 g 0 len),(1,.int .i64 a),(2,.int .i64 b),(7,.int .i64 k),(8,.int .i64 z)]∧s=⟨[AX,.arr g 1 nn cl (vs .str d.toList)],c⟩) ?_ _ _ _ ⟨i,c,rfl,by omega,hib,rfl,rfl,rfl⟩
 rintro _ _ _ ⟨k,c,rfl,hik,hkb,hk,rfl,rfl⟩
 refine⟨rfl,?_⟩
 (conv=>whnf);repeat' (first|((with_reducible show Bq _ _ _);refine DT (k) ?_;conv=>whnf)|((with_reducible show Bq _ _ _);refine DT (k-1) ?_;conv=>whnf)|(refine IE Iw (fun hc=>?_) (fun hc=>?_)<;>conv=>whnf)|(refine kA ?_;conv=>whnf)|(refine Br.mk (fun hc=>?_) fun hc=>?_<;>first|exact hc.elim|conv=>whnf)|(refine kB ?_))
 all_goals first
  |(rw [ZC (by omega) hc]at hk
    exact again.mk ⟨_,by omega,k+1,_,rfl,by omega,by omega,hk,rfl,rfl⟩)
  |(rw [L6 (fun _=>hc)]at hk
    exact hQ _ _ _ hk hik hkb)
  |(rw [L6 (fun h=>absurd h (by omega))]at hk
    exact hQ _ _ _ hk hik hkb)
theorem Ah3 {AX:Obj} {g c len:Nat} {nn cl:Bool} {d:Array (List UInt8)} {a b i j:Nat} {z y:Int} {Q:AA→Env→Ap→Prop} (hl:d.size=len) (hs:len<2^61) (hj:j<len) (hy:y=j)
 (hQ:∀c' tl,Q (.exit 4) ([(0,.own 1 g 0 len),(1,.int .i64 a),(2,.int .i64 b),(7,.int .i64 i),(8,.int .i64 z)]++tl) ⟨[AX,.arr g 1 nn cl (vs .str (shiftDown Df j d).toList)],c'⟩):
 Run (Ad tab) (.loop l281_1_h l281_1_b) [(0,.own 1 g 0 len),(1,.int .i64 a),(2,.int .i64 b),(7,.int .i64 i),(8,.int .i64 z),(9,.int .i64 y)] ⟨[AX,.arr g 1 nn cl (vs .str d.toList)],c⟩ Q:=by
 refine Ae (fun m env s=>∃(k c:Nat) (y:Int) (D:Array (List UInt8)),m=k∧y=k∧k≤j∧D.size=len∧shiftDown Df k D=shiftDown Df j d∧env=[(0,.own 1 g 0 len),(1,.int .i64 a),(2,.int .i64 b),(7,.int .i64 i),(8,.int .i64 z),(9,.int .i64 y)]∧s=⟨[AX,.arr g 1 nn cl (vs .str D.toList)],c⟩) ?_ _ _ _ ⟨j,c,y,d,rfl,hy,by omega,hl,rfl,rfl,rfl⟩
 clear hy
 rintro k _ _ ⟨_,c,y,D,rfl,hy,hkj,hD,hk,rfl,rfl⟩
 refine⟨rfl,?_⟩
 cases k with
 |zero=>
  rw[← hk]at hQ
  (conv=>whnf);repeat' (first  |(refine kA ?_;conv=>whnf)|(refine Br.mk (fun hc=>?_) fun hc=>?_<;>first|exact hc.elim|conv=>whnf)|(refine kB ?_))
  exact hQ _ _
 |succ k=>
  (conv=>whnf);repeat' (first|((with_reducible show Bq _ _ _);refine DT (k+1) ?_;conv=>whnf)|((with_reducible show Bq _ _ _);refine DT (k) ?_;conv=>whnf)|(refine IE Iw (fun hc=>?_) (fun hc=>?_)<;>conv=>whnf)|((with_reducible show eqK _ _);refine Hl cellsS (k+1) ?_;conv=>whnf)|((with_reducible show eqK _ _);refine Hl cellsS (k) ?_;conv=>whnf)|(refine kA ?_;conv=>whnf)|(refine Br.mk (fun hc=>?_) fun hc=>?_<;>first|exact hc.elim|conv=>whnf)|(refine kB ?_))
  ·rw[AfT hc]at hk
   exact again.mk ⟨_,by omega,k,_,y-1,swp D (k+1) k,rfl,by omega,by omega,by simpa using hD,hk,rfl,rfl⟩
  ·rw[ZE hc]at hk
   rw[← hk]at hQ
   exact hQ _ _
theorem Ah4 {AX:Obj} {g c len:Nat} {nn cl:Bool} {d:Array (List UInt8)} {a b i j:Nat} {z:Int} {Q:AA→Env→Ap→Prop} (hl:d.size=len) (hs:len<2^61) (hj:0<j) (hb:b≤len)
 (hQ:∀c' tl,Q (.exit 6) ([(0,.own 1 g 0 len),(1,.int .i64 a),(2,.int .i64 b),(7,.int .i64 i),(8,.int .i64 z)]++tl) ⟨[AX,.arr g 1 nn cl (vs .str (shiftUp Df b j d).toList)],c'⟩):
 Run (Ad tab) (.loop l281_2_h l281_2_b) [(0,.own 1 g 0 len),(1,.int .i64 a),(2,.int .i64 b),(7,.int .i64 i),(8,.int .i64 z),(10,.int .i64 j)] ⟨[AX,.arr g 1 nn cl (vs .str d.toList)],c⟩ Q:=by
 refine Ae (fun m env s=>∃(k c:Nat) (D:Array (List UInt8)),m=b-k∧j≤k∧D.size=len∧shiftUp Df b k D=shiftUp Df b j d∧env=[(0,.own 1 g 0 len),(1,.int .i64 a),(2,.int .i64 b),(7,.int .i64 i),(8,.int .i64 z),(10,.int .i64 k)]∧s=⟨[AX,.arr g 1 nn cl (vs .str D.toList)],c⟩) ?_ _ _ _ ⟨j,c,d,rfl,by omega,hl,rfl,rfl,rfl⟩
 rintro _ _ _ ⟨k,c,D,rfl,hjk,hD,hk,rfl,rfl⟩
 refine⟨rfl,?_⟩
 (conv=>whnf);repeat' (first|((with_reducible show Bq _ _ _);refine DT (k) ?_;conv=>whnf)|((with_reducible show Bq _ _ _);refine DT (k-1) ?_;conv=>whnf)|(refine IE Iw (fun hc=>?_) (fun hc=>?_)<;>conv=>whnf)|((with_reducible show eqK _ _);refine Hl cellsS (k) ?_;conv=>whnf)|((with_reducible show eqK _ _);refine Hl cellsS (k-1) ?_;conv=>whnf)|(refine kA ?_;conv=>whnf)|(refine Br.mk (fun hc=>?_) fun hc=>?_<;>first|exact hc.elim|conv=>whnf)|(refine kB ?_))
 ·rw[AfV (by omega) hc]at hk
  exact again.mk ⟨_,by omega,k+1,_,swp D k (k-1),rfl,by omega,by simpa using hD,hk,rfl,rfl⟩
 ·rw[Qk (fun _=>hc)]at hk
  rw[← hk]at hQ
  exact hQ _ _
 ·rw[Qk (fun h=>absurd h (by omega))]at hk
  rw[← hk]at hQ
  exact hQ _ _
set_option maxHeartbeats 2000000 in
theorem AnA {AX:Obj} {g c len:Nat} {nn cl:Bool} {d:Array (List UInt8)} {a b:Nat} (hl:d.size=len) (hb:b≤len) (hab:a<b) (hs:len<2^61):
 Au (Ad tab) 281 [.own 1 g 0 len,.int .i64 a,.int .i64 b] ⟨[AX,.arr g 1 nn cl (vs .str d.toList)],c⟩ fun out s'=>∃c',out=.ok (.bool (partialInsertionSort Df d a b).2)∧s'=⟨[AX,.arr g 1 nn cl (vs .str (partialInsertionSort Df d a b).1.toList)],c'⟩:=by
 refine Ah rfl rfl ?_
 (conv=>whnf);repeat' (first  |(refine kA ?_;conv=>whnf)|(refine Br.mk (fun hc=>?_) fun hc=>?_<;>first|exact hc.elim|conv=>whnf)|(refine kB ?_))
 refine Ae (fun m env s=>∃(k i c:Nat) (z:Int) (D:Array (List UInt8)),m=k∧z=5-k∧k≤5∧a<i∧i≤b∧D.size=len∧partialIns Df a b k i D=partialInsertionSort Df d a b∧env=[(0,.own 1 g 0 len),(1,.int .i64 a),(2,.int .i64 b),(7,.int .i64 i),(8,.int .i64 z)]∧s=⟨[AX,.arr g 1 nn cl (vs .str D.toList)],c⟩) ?_ _ _ _ ⟨5,a+1,c,0,d,rfl,by omega,by omega,by omega,by omega,hl,rfl,rfl,rfl⟩
 rintro k _ _ ⟨_,i,c,z,D,rfl,hz,hk5,hai,hib,hD,hk,rfl,rfl⟩
 refine⟨rfl,?_⟩
 cases k with
 |zero=>
  rw[← hk]
  (conv=>whnf);repeat' (first  |(refine kA ?_;conv=>whnf)|(refine Br.mk (fun hc=>?_) fun hc=>?_<;>first|exact hc.elim|conv=>whnf)|(refine kB ?_))
  exact⟨_,rfl,rfl⟩
 |succ k=>
  rw[partialIns_succ]at hk
  (conv=>whnf);repeat' (first  |(refine kA ?_;conv=>whnf)|(refine Br.mk (fun hc=>?_) fun hc=>?_<;>first|exact hc.elim|conv=>whnf)|(refine kB ?_))
  refine Ah2 hD hb hs (by omega) hib ?_
  intro c1 j tl hj hij hjb
  rw[← hj]at hk
  have hend:∀(c:Nat) (E:Array (List UInt8)) (z':Int),z'=5-(k:Int)→E.size=len→E=fixUp Df b j (fixDown Df a j (swp D j (j-1)))→¬j=b→¬b-a<50→again (fun m env s=>∃(k i c:Nat) (z:Int) (D:Array (List UInt8)),m=k∧z=5-k∧k≤5∧a<i∧i≤b∧D.size=len∧partialIns Df a b k i D=partialInsertionSort Df d a b∧env=[(0,.own 1 g 0 len),(1,.int .i64 a),(2,.int .i64 b),(7,.int .i64 i),(8,.int .i64 z)]∧s=⟨[AX,.arr g 1 nn cl (vs .str D.toList)],c⟩) (k+1) [(0,.own 1 g 0 len),(1,.int .i64 a),(2,.int .i64 b),(7,.int .i64 j),(8,.int .i64 z')] ⟨[AX,.arr g 1 nn cl (vs .str E.toList)],c⟩:=by
   intro c E z' hz' hE hE2 h1 h2
   rw[if_neg h1,if_neg h2]at hk
   refine again.mk ⟨_,by omega,k,j,c,z',E,rfl,hz',by omega,by omega,by omega,hE,?_,rfl,rfl⟩
   rw[hE2];exact hk
  (conv=>whnf);repeat' (first|((with_reducible show Bq _ _ _);refine DT (j) ?_;conv=>whnf)|((with_reducible show Bq _ _ _);refine DT (j-1) ?_;conv=>whnf)|((with_reducible show eqK _ _);refine Hl cellsS (j) ?_;conv=>whnf)|((with_reducible show eqK _ _);refine Hl cellsS (j-1) ?_;conv=>whnf)|(refine kA ?_;conv=>whnf)|(refine Br.mk (fun hc=>?_) fun hc=>?_<;>first|exact hc.elim|conv=>whnf)|(refine kB ?_))
  ·rw[if_pos (by omega)]at hk
   rw[← hk]
   exact⟨_,rfl,rfl⟩
  ·rw[if_neg (by omega),if_pos (by omega)]at hk
   rw[← hk]
   exact⟨_,rfl,rfl⟩
  ·refine Ah3 (d:=swp D j (j-1)) (j:=j-1) (by simpa using hD) hs (by omega) (by omega) ?_
   intro c2 tl2
   (conv=>whnf);repeat' (first  |(refine kA ?_;conv=>whnf)|(refine Br.mk (fun hc=>?_) fun hc=>?_<;>first|exact hc.elim|conv=>whnf)|(refine kB ?_))
   ·refine Ah4 (j:=j+1) (by simpa using hD) hs (by omega) hb ?_
    intro c3 tl3
    (conv=>whnf);repeat' (first  |(refine kA ?_;conv=>whnf)|(refine Br.mk (fun hc=>?_) fun hc=>?_<;>first|exact hc.elim|conv=>whnf)|(refine kB ?_))
    refine hend _ _ _ (by omega) (by simpa using hD) ?_ (by omega) (by omega)
    unfold fixUp fixDown
    rw[if_pos (by omega),if_pos (by omega)]
   ·refine hend _ _ _ (by omega) (by simpa using hD) ?_ (by omega) (by omega)
    unfold fixUp fixDown
    rw[if_neg (by omega),if_pos (by omega)]
  ·refine Ah4 (d:=swp D j (j-1)) (j:=j+1) (by simpa using hD) hs (by omega) hb ?_
   intro c3 tl3
   (conv=>whnf);repeat' (first  |(refine kA ?_;conv=>whnf)|(refine Br.mk (fun hc=>?_) fun hc=>?_<;>first|exact hc.elim|conv=>whnf)|(refine kB ?_))
   refine hend _ _ _ (by omega) (by simpa using hD) ?_ (by omega) (by omega)
   unfold fixUp fixDown
   rw[if_pos (by omega),if_neg (by omega)]
theorem Aqw {AX:Obj} {g c len:Nat} {nn cl:Bool} {d:Array (List UInt8)} {a i j:Nat} {z:Int} {Q:AA→Env→Ap→Prop} (hl:d.size=len) (ha:a<len) (hj:j<len) (hs:len<2^61) (hz:z=j) (hi:i≤j+1)
 (hQ:∀c' k tl,k=scanUp (fun x=>!Df d[a]! x) d j i→i≤k→k≤j+1→(k≤j→(fun x=>!Df d[a]! x) d[k]! =false)→Q (.exit 2) ([(0,.own 1 g 0 len),(1,.int .i64 a),(9,.int .i64 k),(10,.int .i64 z)]++tl) ⟨[AX,.arr g 1 nn cl (vs .str d.toList)],c'⟩):
 Run (Ad tab) (.loop l282_0_h l282_0_b) [(0,.own 1 g 0 len),(1,.int .i64 a),(9,.int .i64 i),(10,.int .i64 z)] ⟨[AX,.arr g 1 nn cl (vs .str d.toList)],c⟩ Q:=by
 refine Ae (fun m env s=>∃(k c:Nat),m=j+1-k∧i≤k∧k≤j+1∧scanUp (fun x=>!Df d[a]! x) d j k=scanUp (fun x=>!Df d[a]! x) d j i∧env=[(0,.own 1 g 0 len),(1,.int .i64 a),(9,.int .i64 k),(10,.int .i64 z)]∧s=⟨[AX,.arr g 1 nn cl (vs .str d.toList)],c⟩) ?_ _ _ _ ⟨i,c,rfl,by omega,hi,rfl,rfl,rfl⟩
 rintro _ _ _ ⟨k,c,rfl,hik,hkj,hk,rfl,rfl⟩
 refine⟨rfl,?_⟩
 (conv=>whnf);repeat' (first|((with_reducible show Bq _ _ _);refine DT (k) ?_;conv=>whnf)|((with_reducible show Bq _ _ _);refine DT (a) ?_;conv=>whnf)|(refine IE Iw (fun hc=>?_) (fun hc=>?_)<;>conv=>whnf)|(refine kA ?_;conv=>whnf)|(refine Br.mk (fun hc=>?_) fun hc=>?_<;>first|exact hc.elim|conv=>whnf)|(refine kB ?_))
 all_goals first
  |(rw [RN (by omega) (by first|exact hc|(show (!_)=_;rw[hc];rfl))]at hk
    exact again.mk ⟨_,by omega,k+1,_,rfl,by omega,by omega,hk,rfl,rfl⟩)
  |(rw [FB (fun _=>(by first|exact hc|(show (!_)=_;rw[hc];rfl)))]at hk
    exact hQ _ _ _ hk hik hkj (fun _=>(by first|exact hc|(show (!_)=_;rw[hc];rfl))))
  |(rw [FB (fun h=>absurd h (by omega))]at hk
    exact hQ _ _ _ hk hik hkj (fun h=>absurd h (by omega)))
theorem Aqx {AX:Obj} {g c len:Nat} {nn cl:Bool} {d:Array (List UInt8)} {a i j:Nat} {z:Int} {Q:AA→Env→Ap→Prop} (hl:d.size=len) (ha:a<len) (hj:j<len) (hs:len<2^61) (hz:z=j) (hi:0<i) (hij:i≤j+1)
 (hQ:∀c' k z tl,k=scanDown (fun x=>Df d[a]! x) d i j→k≤j→i≤k+1→z=(k:Int)→(i≤k→(fun x=>Df d[a]! x) d[k]! =false)→Q (.exit 4) ([(0,.own 1 g 0 len),(1,.int .i64 a),(9,.int .i64 i),(10,.int .i64 z)]++tl) ⟨[AX,.arr g 1 nn cl (vs .str d.toList)],c'⟩):
 Run (Ad tab) (.loop l282_1_h l282_1_b) [(0,.own 1 g 0 len),(1,.int .i64 a),(9,.int .i64 i),(10,.int .i64 z)] ⟨[AX,.arr g 1 nn cl (vs .str d.toList)],c⟩ Q:=by
 refine Ae (fun m env s=>∃(k c:Nat) (z:Int),m=k∧z=k∧k≤j∧i≤k+1∧scanDown (fun x=>Df d[a]! x) d i k=scanDown (fun x=>Df d[a]! x) d i j∧env=[(0,.own 1 g 0 len),(1,.int .i64 a),(9,.int .i64 i),(10,.int .i64 z)]∧s=⟨[AX,.arr g 1 nn cl (vs .str d.toList)],c⟩) ?_ _ _ _ ⟨j,c,z,rfl,hz,by omega,hij,rfl,rfl,rfl⟩
 clear hz
 rintro k _ _ ⟨_,c,z,rfl,hz,hkj,hik,hk,rfl,rfl⟩
 refine⟨rfl,?_⟩
 (conv=>whnf);repeat' (first|((with_reducible show Bq _ _ _);refine DT (k) ?_;conv=>whnf)|((with_reducible show Bq _ _ _);refine DT (a) ?_;conv=>whnf)|(refine IE Iw (fun hc=>?_) (fun hc=>?_)<;>conv=>whnf)|(refine kA ?_;conv=>whnf)|(refine Br.mk (fun hc=>?_) fun hc=>?_<;>first|exact hc.elim|conv=>whnf)|(refine kB ?_))
 all_goals first
  |(obtain ⟨k,rfl⟩:∃k',k=k'+1:=⟨k-1,by omega⟩
    rw[RP (by omega) (by first|exact hc|(show (!_)=_;rw[hc];rfl))]at hk
    exact again.mk ⟨_,by omega,k,_,z-1,rfl,by omega,by omega,by omega,hk,rfl,rfl⟩)
  |(rw [FC (fun _=>(by first|exact hc|(show (!_)=_;rw[hc];rfl)))]at hk
    exact hQ _ _ _ _ hk hkj hik hz (fun _=>(by first|exact hc|(show (!_)=_;rw[hc];rfl))))
  |(rw [FC (fun h=>absurd h (by omega))]at hk
    exact hQ _ _ _ _ hk hkj hik hz (fun h=>absurd h (by omega)))
set_option maxHeartbeats 1000000 in
theorem Aqr {AX:Obj} {g c len:Nat} {nn cl:Bool} {d:Array (List UInt8)} {a b pivot:Nat} (hl:d.size=len) (hb:b≤len) (hap:a≤pivot) (hpb:pivot<b) (hs:len<2^61):
 Au (Ad tab) 282 [.own 1 g 0 len,.int .i64 a,.int .i64 b,.int .i64 pivot] ⟨[AX,.arr g 1 nn cl (vs .str d.toList)],c⟩ fun out s'=>∃c',out=.ok (.int .i64 (partitionEqual Df d a b pivot).1)∧s'=⟨[AX,.arr g 1 nn cl (vs .str (partitionEqual Df d a b pivot).2.toList)],c'⟩:=by
 refine Ah rfl rfl ?_
 (conv=>whnf);repeat' (first|((with_reducible show Bq _ _ _);refine DT (a) ?_;conv=>whnf)|((with_reducible show Bq _ _ _);refine DT (pivot) ?_;conv=>whnf)|((with_reducible show eqK _ _);refine Hl cellsS (a) ?_;conv=>whnf)|((with_reducible show eqK _ _);refine Hl cellsS (pivot) ?_;conv=>whnf)|(refine kA ?_;conv=>whnf)|(refine Br.mk (fun hc=>?_) fun hc=>?_<;>first|exact hc.elim|conv=>whnf)|(refine kB ?_))
 refine Ae (fun m env s=>∃(i j c:Nat) (z:Int) (D:Array (List UInt8)),m=j+1-i∧z=j∧a<i∧i≤j+1∧j<b∧D.size=len∧partEqLoop Df a i j D=partitionEqual Df d a b pivot∧env=[(0,.own 1 g 0 len),(1,.int .i64 a),(9,.int .i64 i),(10,.int .i64 z)]∧s=⟨[AX,.arr g 1 nn cl (vs .str D.toList)],c⟩) ?_ _ _ _ ⟨a+1,b-1,_,_,swp d a pivot,rfl,by omega,by omega,by omega,by omega,by simpa using hl,rfl,rfl,rfl⟩
 rintro _ _ _ ⟨i,j,c,z,D,rfl,hz,hai,hij,hjb,hD,hk,rfl,rfl⟩
 refine⟨rfl,?_⟩
 rw[partEqLoop_eq]at hk
 (conv=>whnf);repeat' (first  |(refine kA ?_;conv=>whnf)|(refine Br.mk (fun hc=>?_) fun hc=>?_<;>first|exact hc.elim|conv=>whnf)|(refine kB ?_))
 refine Aqw hD (by omega) (by omega) hs hz hij ?_
 intro c1 i2 tl1 hi2 hii2 U1 hp2
 rw[← hi2]at hk
 (conv=>whnf);repeat' (first  |(refine kA ?_;conv=>whnf)|(refine Br.mk (fun hc=>?_) fun hc=>?_<;>first|exact hc.elim|conv=>whnf)|(refine kB ?_))
 refine Aqx hD (by omega) (by omega) hs hz (by omega) U1 ?_
 intro c2 j2 z2 tl2 hj2 AfW ZF hz2 hq2
 rw[← hj2]at hk
 have hne:i2≤j2→i2≠j2:=by
  intro h e
  subst e
  have h1:=hp2 (by omega)
  have h2:=hq2 (by omega)
  simp only[Bool.not_eq_false']at h1 h2
  rw[h1]at h2;cases h2
 (conv=>whnf);repeat' (first|((with_reducible show Bq _ _ _);refine DT (i2) ?_;conv=>whnf)|((with_reducible show Bq _ _ _);refine DT (j2) ?_;conv=>whnf)|((with_reducible show eqK _ _);refine Hl cellsS (i2) ?_;conv=>whnf)|((with_reducible show eqK _ _);refine Hl cellsS (j2) ?_;conv=>whnf)|(refine kA ?_;conv=>whnf)|(refine Br.mk (fun hc=>?_) fun hc=>?_<;>first|exact hc.elim|conv=>whnf)|(refine kB ?_))
 ·rw[if_pos (by omega)]at hk
  rw[← hk]
  exact⟨_,rfl,rfl⟩
 ·rw[if_neg (by omega)]at hk
  exact again.mk ⟨_,by omega,i2+1,j2-1,_,z2-1,swp D i2 j2,rfl,by omega,by omega,by omega,by omega,by simpa using hD,hk,rfl,rfl⟩
theorem Aqy {AX:Obj} {g c len:Nat} {nn cl:Bool} {d:Array (List UInt8)} {a i j:Nat} {z:Int} {Q:AA→Env→Ap→Prop} (hl:d.size=len) (ha:a<len) (hj:j<len) (hs:len<2^61) (hz:z=j) (hi:i≤j+1)
 (hQ:∀c' k tl,k=scanUp (fun x=>Df x d[a]!) d j i→i≤k→k≤j+1→(k≤j→(fun x=>Df x d[a]!) d[k]! =false)→Q (.exit 0) ([(0,.own 1 g 0 len),(1,.int .i64 a),(10,.int .i64 k),(11,.int .i64 z)]++tl) ⟨[AX,.arr g 1 nn cl (vs .str d.toList)],c'⟩):
 Run (Ad tab) (.loop l283_0_h l283_0_b) [(0,.own 1 g 0 len),(1,.int .i64 a),(10,.int .i64 i),(11,.int .i64 z)] ⟨[AX,.arr g 1 nn cl (vs .str d.toList)],c⟩ Q:=by
 refine Ae (fun m env s=>∃(k c:Nat),m=j+1-k∧i≤k∧k≤j+1∧scanUp (fun x=>Df x d[a]!) d j k=scanUp (fun x=>Df x d[a]!) d j i∧env=[(0,.own 1 g 0 len),(1,.int .i64 a),(10,.int .i64 k),(11,.int .i64 z)]∧s=⟨[AX,.arr g 1 nn cl (vs .str d.toList)],c⟩) ?_ _ _ _ ⟨i,c,rfl,by omega,hi,rfl,rfl,rfl⟩
 rintro _ _ _ ⟨k,c,rfl,hik,hkj,hk,rfl,rfl⟩
 refine⟨rfl,?_⟩
 (conv=>whnf);repeat' (first|((with_reducible show Bq _ _ _);refine DT (k) ?_;conv=>whnf)|((with_reducible show Bq _ _ _);refine DT (a) ?_;conv=>whnf)|(refine IE Iw (fun hc=>?_) (fun hc=>?_)<;>conv=>whnf)|(refine kA ?_;conv=>whnf)|(refine Br.mk (fun hc=>?_) fun hc=>?_<;>first|exact hc.elim|conv=>whnf)|(refine kB ?_))
 all_goals first
  |(rw [RN (by omega) (by first|exact hc|(show (!_)=_;rw[hc];rfl))]at hk
    exact again.mk ⟨_,by omega,k+1,_,rfl,by omega,by omega,hk,rfl,rfl⟩)
  |(rw [FB (fun _=>(by first|exact hc|(show (!_)=_;rw[hc];rfl)))]at hk
    exact hQ _ _ _ hk hik hkj (fun _=>(by first|exact hc|(show (!_)=_;rw[hc];rfl))))
  |(rw [FB (fun h=>absurd h (by omega))]at hk
    exact hQ _ _ _ hk hik hkj (fun h=>absurd h (by omega)))
theorem Aqz {AX:Obj} {g c len:Nat} {nn cl:Bool} {d:Array (List UInt8)} {a i j:Nat} {z:Int} {Q:AA→Env→Ap→Prop} (hl:d.size=len) (ha:a<len) (hj:j<len) (hs:len<2^61) (hz:z=j) (hi:0<i) (hij:i≤j+1)
 (hQ:∀c' k z tl,k=scanDown (fun x=>!Df x d[a]!) d i j→k≤j→i≤k+1→z=(k:Int)→(i≤k→(fun x=>!Df x d[a]!) d[k]! =false)→Q (.exit 2) ([(0,.own 1 g 0 len),(1,.int .i64 a),(10,.int .i64 i),(11,.int .i64 z)]++tl) ⟨[AX,.arr g 1 nn cl (vs .str d.toList)],c'⟩):
 Run (Ad tab) (.loop l283_1_h l283_1_b) [(0,.own 1 g 0 len),(1,.int .i64 a),(10,.int .i64 i),(11,.int .i64 z)] ⟨[AX,.arr g 1 nn cl (vs .str d.toList)],c⟩ Q:=by
 refine Ae (fun m env s=>∃(k c:Nat) (z:Int),m=k∧z=k∧k≤j∧i≤k+1∧scanDown (fun x=>!Df x d[a]!) d i k=scanDown (fun x=>!Df x d[a]!) d i j∧env=[(0,.own 1 g 0 len),(1,.int .i64 a),(10,.int .i64 i),(11,.int .i64 z)]∧s=⟨[AX,.arr g 1 nn cl (vs .str d.toList)],c⟩) ?_ _ _ _ ⟨j,c,z,rfl,hz,by omega,hij,rfl,rfl,rfl⟩
 clear hz
 rintro k _ _ ⟨_,c,z,rfl,hz,hkj,hik,hk,rfl,rfl⟩
 refine⟨rfl,?_⟩
 (conv=>whnf);repeat' (first|((with_reducible show Bq _ _ _);refine DT (k) ?_;conv=>whnf)|((with_reducible show Bq _ _ _);refine DT (a) ?_;conv=>whnf)|(refine IE Iw (fun hc=>?_) (fun hc=>?_)<;>conv=>whnf)|(refine kA ?_;conv=>whnf)|(refine Br.mk (fun hc=>?_) fun hc=>?_<;>first|exact hc.elim|conv=>whnf)|(refine kB ?_))
 all_goals first
  |(obtain ⟨k,rfl⟩:∃k',k=k'+1:=⟨k-1,by omega⟩
    rw[RP (by omega) (by first|exact hc|(show (!_)=_;rw[hc];rfl))]at hk
    exact again.mk ⟨_,by omega,k,_,z-1,rfl,by omega,by omega,by omega,hk,rfl,rfl⟩)
  |(rw [FC (fun _=>(by first|exact hc|(show (!_)=_;rw[hc];rfl)))]at hk
    exact hQ _ _ _ _ hk hkj hik hz (fun _=>(by first|exact hc|(show (!_)=_;rw[hc];rfl))))
  |(rw [FC (fun h=>absurd h (by omega))]at hk
    exact hQ _ _ _ _ hk hkj hik hz (fun h=>absurd h (by omega)))
theorem AqA {AX:Obj} {g c len:Nat} {nn cl:Bool} {d:Array (List UInt8)} {a i j:Nat} {z:Int} {Q:AA→Env→Ap→Prop} (hl:d.size=len) (ha:a<len) (hj:j<len) (hs:len<2^61) (hz:z=j) (hi:i≤j+1)
 (hQ:∀c' k tl,k=scanUp (fun x=>Df x d[a]!) d j i→i≤k→k≤j+1→(k≤j→(fun x=>Df x d[a]!) d[k]! =false)→Q (.exit 6) ([(0,.own 1 g 0 len),(1,.int .i64 a),(10,.int .i64 k),(11,.int .i64 z)]++tl) ⟨[AX,.arr g 1 nn cl (vs .str d.toList)],c'⟩):
 Run (Ad tab) (.loop l283_2_h l283_2_b) [(0,.own 1 g 0 len),(1,.int .i64 a),(10,.int .i64 i),(11,.int .i64 z)] ⟨[AX,.arr g 1 nn cl (vs .str d.toList)],c⟩ Q:=by
 refine Ae (fun m env s=>∃(k c:Nat),m=j+1-k∧i≤k∧k≤j+1∧scanUp (fun x=>Df x d[a]!) d j k=scanUp (fun x=>Df x d[a]!) d j i∧env=[(0,.own 1 g 0 len),(1,.int .i64 a),(10,.int .i64 k),(11,.int .i64 z)]∧s=⟨[AX,.arr g 1 nn cl (vs .str d.toList)],c⟩) ?_ _ _ _ ⟨i,c,rfl,by omega,hi,rfl,rfl,rfl⟩
 rintro _ _ _ ⟨k,c,rfl,hik,hkj,hk,rfl,rfl⟩
 refine⟨rfl,?_⟩
 (conv=>whnf);repeat' (first|((with_reducible show Bq _ _ _);refine DT (k) ?_;conv=>whnf)|((with_reducible show Bq _ _ _);refine DT (a) ?_;conv=>whnf)|(refine IE Iw (fun hc=>?_) (fun hc=>?_)<;>conv=>whnf)|(refine kA ?_;conv=>whnf)|(refine Br.mk (fun hc=>?_) fun hc=>?_<;>first|exact hc.elim|conv=>whnf)|(refine kB ?_))
 all_goals first
  |(rw [RN (by omega) (by first|exact hc|(show (!_)=_;rw[hc];rfl))]at hk
    exact again.mk ⟨_,by omega,k+1,_,rfl,by omega,by omega,hk,rfl,rfl⟩)
  |(rw [FB (fun _=>(by first|exact hc|(show (!_)=_;rw[hc];rfl)))]at hk
    exact hQ _ _ _ hk hik hkj (fun _=>(by first|exact hc|(show (!_)=_;rw[hc];rfl))))
  |(rw [FB (fun h=>absurd h (by omega))]at hk
    exact hQ _ _ _ hk hik hkj (fun h=>absurd h (by omega)))
theorem AqB {AX:Obj} {g c len:Nat} {nn cl:Bool} {d:Array (List UInt8)} {a i j:Nat} {z:Int} {Q:AA→Env→Ap→Prop} (hl:d.size=len) (ha:a<len) (hj:j<len) (hs:len<2^61) (hz:z=j) (hi:0<i) (hij:i≤j+1)
 (hQ:∀c' k z tl,k=scanDown (fun x=>!Df x d[a]!) d i j→k≤j→i≤k+1→z=(k:Int)→(i≤k→(fun x=>!Df x d[a]!) d[k]! =false)→Q (.exit 8) ([(0,.own 1 g 0 len),(1,.int .i64 a),(10,.int .i64 i),(11,.int .i64 z)]++tl) ⟨[AX,.arr g 1 nn cl (vs .str d.toList)],c'⟩):
 Run (Ad tab) (.loop l283_3_h l283_3_b) [(0,.own 1 g 0 len),(1,.int .i64 a),(10,.int .i64 i),(11,.int .i64 z)] ⟨[AX,.arr g 1 nn cl (vs .str d.toList)],c⟩ Q:=by
 refine Ae (fun m env s=>∃(k c:Nat) (z:Int),m=k∧z=k∧k≤j∧i≤k+1∧scanDown (fun x=>!Df x d[a]!) d i k=scanDown (fun x=>!Df x d[a]!) d i j∧env=[(0,.own 1 g 0 len),(1,.int .i64 a),(10,.int .i64 i),(11,.int .i64 z)]∧s=⟨[AX,.arr g 1 nn cl (vs .str d.toList)],c⟩) ?_ _ _ _ ⟨j,c,z,rfl,hz,by omega,hij,rfl,rfl,rfl⟩
 clear hz
 rintro k _ _ ⟨_,c,z,rfl,hz,hkj,hik,hk,rfl,rfl⟩
 refine⟨rfl,?_⟩
 (conv=>whnf);repeat' (first|((with_reducible show Bq _ _ _);refine DT (k) ?_;conv=>whnf)|((with_reducible show Bq _ _ _);refine DT (a) ?_;conv=>whnf)|(refine IE Iw (fun hc=>?_) (fun hc=>?_)<;>conv=>whnf)|(refine kA ?_;conv=>whnf)|(refine Br.mk (fun hc=>?_) fun hc=>?_<;>first|exact hc.elim|conv=>whnf)|(refine kB ?_))
 all_goals first
  |(obtain ⟨k,rfl⟩:∃k',k=k'+1:=⟨k-1,by omega⟩
    rw[RP (by omega) (by first|exact hc|(show (!_)=_;rw[hc];rfl))]at hk
    exact again.mk ⟨_,by omega,k,_,z-1,rfl,by omega,by omega,by omega,hk,rfl,rfl⟩)
  |(rw [FC (fun _=>(by first|exact hc|(show (!_)=_;rw[hc];rfl)))]at hk
    exact hQ _ _ _ _ hk hkj hik hz (fun _=>(by first|exact hc|(show (!_)=_;rw[hc];rfl))))
  |(rw [FC (fun h=>absurd h (by omega))]at hk
    exact hQ _ _ _ _ hk hkj hik hz (fun h=>absurd h (by omega)))
set_option maxHeartbeats 1000000 in
theorem Akr {AX:Obj} {g c len:Nat} {nn cl:Bool} {d:Array (List UInt8)} {a b i j:Nat} {z:Int} {Q:AA→Env→Ap→Prop} (hl:d.size=len) (hb:b≤len) (hs:len<2^61) (hz:z=j) (hai:a<i) (hij:i≤j+1) (hjb:j<b)
 (hQ:∀c' x y tl,y=((partLoop Df a i j d).1:Int)→(partLoop Df a i j d).1<b→(partLoop Df a i j d).2.size=len→Q (.exit 4) ([(0,.own 1 g 0 len),(1,.int .i64 a),(10,x),(11,.int .i64 y)]++tl) ⟨[AX,.arr g 1 nn cl (vs .str (partLoop Df a i j d).2.toList)],c'⟩):
 Run (Ad tab) (.loop l283_4_h l283_4_b) [(0,.own 1 g 0 len),(1,.int .i64 a),(10,.int .i64 i),(11,.int .i64 z)] ⟨[AX,.arr g 1 nn cl (vs .str d.toList)],c⟩ Q:=by
 refine Ae (fun m env s=>∃(i' j' c:Nat) (z:Int) (D:Array (List UInt8)),m=j'+1-i'∧z=j'∧a<i'∧i'≤j'+1∧j'<b∧D.size=len∧partLoop Df a i' j' D=partLoop Df a i j d∧env=[(0,.own 1 g 0 len),(1,.int .i64 a),(10,.int .i64 i'),(11,.int .i64 z)]∧s=⟨[AX,.arr g 1 nn cl (vs .str D.toList)],c⟩) ?_ _ _ _ ⟨i,j,c,z,d,rfl,hz,hai,hij,hjb,hl,rfl,rfl,rfl⟩
 clear hz
 rintro _ _ _ ⟨i',j',c,z,D,rfl,hz,hai,hij,hjb,hD,hk,rfl,rfl⟩
 refine⟨rfl,?_⟩
 rw[partLoop_eq]at hk
 (conv=>whnf);repeat' (first  |(refine kA ?_;conv=>whnf)|(refine Br.mk (fun hc=>?_) fun hc=>?_<;>first|exact hc.elim|conv=>whnf)|(refine kB ?_))
 refine AqA hD (by omega) (by omega) hs hz hij ?_
 intro c1 i2 tl1 hi2 hii2 U1 hp2
 rw[← hi2]at hk
 (conv=>whnf);repeat' (first  |(refine kA ?_;conv=>whnf)|(refine Br.mk (fun hc=>?_) fun hc=>?_<;>first|exact hc.elim|conv=>whnf)|(refine kB ?_))
 refine AqB hD (by omega) (by omega) hs hz (by omega) U1 ?_
 intro c2 j2 z2 tl2 hj2 AfW ZF hz2 hq2
 rw[← hj2]at hk
 have hne:i2≤j2→i2≠j2:=by
  intro h e
  subst e
  have h1:=hp2 (by omega)
  have h2:=hq2 (by omega)
  simp only[Bool.not_eq_false']at h1 h2
  rw[h1]at h2;cases h2
 (conv=>whnf);repeat' (first|((with_reducible show Bq _ _ _);refine DT (i2) ?_;conv=>whnf)|((with_reducible show Bq _ _ _);refine DT (j2) ?_;conv=>whnf)|((with_reducible show eqK _ _);refine Hl cellsS (i2) ?_;conv=>whnf)|((with_reducible show eqK _ _);refine Hl cellsS (j2) ?_;conv=>whnf)|(refine kA ?_;conv=>whnf)|(refine Br.mk (fun hc=>?_) fun hc=>?_<;>first|exact hc.elim|conv=>whnf)|(refine kB ?_))
 ·rw[if_pos (by omega)]at hk
  rw[← hk]at hQ
  exact hQ _ _ _ _ hz2 (by show j2<b;omega) hD
 ·rw[if_neg (by omega)]at hk
  exact again.mk ⟨_,by omega,i2+1,j2-1,_,z2-1,swp D i2 j2,rfl,by omega,by omega,by omega,by omega,by simpa using hD,hk,rfl,rfl⟩
set_option maxHeartbeats 2000000 in
theorem Aqq {AX:Obj} {g c len:Nat} {nn cl:Bool} {d:Array (List UInt8)} {a b pivot:Nat} (hl:d.size=len) (hb:b≤len) (hap:a≤pivot) (hpb:pivot<b) (hs:len<2^61):
 Au (Ad tab) 283 [.own 1 g 0 len,.int .i64 a,.int .i64 b,.int .i64 pivot] ⟨[AX,.arr g 1 nn cl (vs .str d.toList)],c⟩ fun out s'=>∃c',out=.ok (.BH [.int .i64 (partition Df d a b pivot).1,.bool (partition Df d a b pivot).2.1])∧s'=⟨[AX,.arr g 1 nn cl (vs .str (partition Df d a b pivot).2.2.toList)],c'⟩:=by
 generalize hR:partition Df d a b pivot=R
 unfold partition at hR
 dsimp only at hR
 refine Ah rfl rfl ?_
 (conv=>whnf);repeat' (first|((with_reducible show Bq _ _ _);refine DT (a) ?_;conv=>whnf)|((with_reducible show Bq _ _ _);refine DT (pivot) ?_;conv=>whnf)|((with_reducible show eqK _ _);refine Hl cellsS (a) ?_;conv=>whnf)|((with_reducible show eqK _ _);refine Hl cellsS (pivot) ?_;conv=>whnf)|(refine kA ?_;conv=>whnf)|(refine Br.mk (fun hc=>?_) fun hc=>?_<;>first|exact hc.elim|conv=>whnf)|(refine kB ?_))
 refine Aqy (d:=swp d a pivot) (i:=a+1) (j:=b-1) (by simpa using hl) (by omega) (by omega) hs (by omega) (by omega) ?_
 intro c1 i2 tl1 hi2 hii2 U1 hp2
 rw[← hi2]at hR
 (conv=>whnf);repeat' (first  |(refine kA ?_;conv=>whnf)|(refine Br.mk (fun hc=>?_) fun hc=>?_<;>first|exact hc.elim|conv=>whnf)|(refine kB ?_))
 refine Aqz (j:=b-1) (by simpa using hl) (by omega) (by omega) hs (by omega) (by omega) U1 ?_
 intro c2 j2 z2 tl2 hj2 AfW ZF hz2 hq2
 rw[← hj2]at hR
 have hne:i2≤j2→i2≠j2:=by
  intro h e
  subst e
  have h1:=hp2 (by omega)
  have h2:=hq2 (by omega)
  simp only[Bool.not_eq_false']at h1 h2
  rw[h1]at h2;cases h2
 clear hp2 hq2
 generalize hE:swp d a pivot=E at*
 have hEl:E.size=len:=by rw[← hE];simpa using hl
 (conv=>whnf);repeat' (first|((with_reducible show Bq _ _ _);refine DT (a) ?_;conv=>whnf)|((with_reducible show Bq _ _ _);refine DT (i2) ?_;conv=>whnf)|((with_reducible show Bq _ _ _);refine DT (j2) ?_;conv=>whnf)|((with_reducible show eqK _ _);refine Hl cellsS (a) ?_;conv=>whnf)|((with_reducible show eqK _ _);refine Hl cellsS (i2) ?_;conv=>whnf)|((with_reducible show eqK _ _);refine Hl cellsS (j2) ?_;conv=>whnf)|(refine kA ?_;conv=>whnf)|(refine Br.mk (fun hc=>?_) fun hc=>?_<;>first|exact hc.elim|conv=>whnf)|(refine kB ?_))
 ·rw[if_pos (by omega)]at hR
  subst hR
  rw[hz2]
  exact⟨_,rfl,rfl⟩
 ·rw[if_neg (by omega)]at hR
  refine Akr (d:=swp E i2 j2) (i:=i2+1) (j:=j2-1) (by simpa using hEl) hb hs (by omega) (by omega) (by omega) (by omega) ?_
  intro c3 x y tl3 hy hyb hsz
  generalize (partLoop Df a (i2+1) (j2-1) (swp E i2 j2)).1=p1 at*
  generalize (partLoop Df a (i2+1) (j2-1) (swp E i2 j2)).2=p2 at*
  subst hy
  (conv=>whnf);repeat' (first|((with_reducible show Bq _ _ _);refine DT (a) ?_;conv=>whnf)|((with_reducible show Bq _ _ _);refine DT (p1) ?_;conv=>whnf)|((with_reducible show eqK _ _);refine Hl cellsS (a) ?_;conv=>whnf)|((with_reducible show eqK _ _);refine Hl cellsS (p1) ?_;conv=>whnf)|(refine kA ?_;conv=>whnf)|(refine Br.mk (fun hc=>?_) fun hc=>?_<;>first|exact hc.elim|conv=>whnf)|(refine kB ?_))
  subst hR
  exact⟨_,rfl,rfl⟩
end
end AI
end Go.Proofs.YtceiccjppfapjaaGreatDoor
