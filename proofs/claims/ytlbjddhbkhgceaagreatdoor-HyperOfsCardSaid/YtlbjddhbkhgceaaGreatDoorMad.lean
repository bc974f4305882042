/- The program's order of a value and null. Sorting in place: lists of a store against arrays of the library's plain sort. Sorting strings in place: the order. The program's check of an atom: its parts. The reference's validity of values: it answers. The reference's validity of values, with lists in lists. The reference's bare values and strings. The reference's check of values that may be stored. The reference's numbers, classes, strings compared. -/
import Derived.Test.YtlbjddhbkhgceaaGreatDoorMac
import Derived.Test.YtlbjddhbkhgceaaGreatDoorGrCode
import Derived.Test.YtlbjddhbkhgceaaGreatDoorMaa
import Derived.Sort.AssemblyPlain
set_option linter.unusedVariables false
set_option maxRecDepth 4000
namespace Go.Proofs.YtlbjddhbkhgceaaGreatDoor
namespace AI
theorem vv_null {v:GV} (hk:v.k=0):VV 8 v↔isNull v:=by
 rw[VV_b (by omega) (by omega)]
 unfold VB isNull
 constructor
 ·rintro⟨h1,h⟩
  rcases h with h|h|h|h|h|h<;>first|exact⟨hk,h.2.1,h.2.2.1,h.2.2.2,h1⟩|(exfalso;omega)
 ·rintro⟨_,h1,h2,h3,h4⟩
  exact⟨h4,.inl ⟨hk,h1,h2,h3⟩⟩
def clsP (k:Int):Int:=if k=3 then 2 else if k=7 then 9 else k
theorem classP {v:GV}:PureP (findFn tab) 91 [v.av] (· =.int .i64 (clsP v.k)):=by
 refine pureP_of rfl rfl ?_
 (conv=>whnf);repeat' (first  |(refine kA ?_;conv=>whnf)|(refine Br.mk (fun hc=>?_) fun hc=>?_<;>first|exact hc.elim|conv=>whnf)|(refine kB ?_))
 all_goals first | (unfold clsP; rw [if_pos (by assumption)]; rfl) | (unfold clsP; rw [if_neg (by assumption), if_pos (by assumption)]; rfl) | (unfold clsP; rw [if_neg (by assumption), if_neg (by assumption)]; rfl) | (trace_state; fail "classP")
theorem clsP0 {k:Int}:clsP k=0↔k=0:=by unfold clsP;split<;>(try split)<;>omega
theorem nanSC {x:List UInt8}:PureP (findFn tab) 95 [.str x] (· =.bool false):=by
 refine pureP_of rfl rfl ?_
 (conv=>whnf);repeat' (first  |(refine kA ?_;conv=>whnf)|(refine Br.mk (fun hc=>?_) fun hc=>?_<;>first|exact hc.elim|conv=>whnf)|(refine kB ?_))
 all_goals first | rfl | (exfalso; simp_all) | (trace_state; fail "nanSC")
theorem cmpS0:PureP (findFn tab) 72 [.str [],.str []] (· =.int .i64 0):=⟨_,⟨20,by kernel_rfl⟩,rfl⟩
theorem or3 {nn:Bool}:PureP (findFn tab) 70 [.sl nn [.int .i64 0,.int .i64 0,.int .i64 0]] (· =.int .i64 0):=by
 cases nn
 ·exact⟨_,⟨20,by kernel_rfl⟩,rfl⟩
 ·exact⟨_,⟨20,by kernel_rfl⟩,rfl⟩
theorem cmpF0 {nn:Bool} {f:Nat}:PureP (findFn tab) 73 [.sl nn [],.sl false [],.fn f []] (· =.int .i64 0):=by
 refine pureP_of rfl rfl ?_
 (conv=>whnf);repeat' (first  |(refine kA ?_;conv=>whnf)|(refine Br.mk (fun hc=>?_) fun hc=>?_<;>first|exact hc.elim|conv=>whnf)|(refine kB ?_))
 refine loop_inv (fun m env s=>m=0∧env=[(0,.sl nn []),(1,.sl false []),(2,.fn f []),(11,.sl nn []),(12,.int .i64 0),(13,.int .i64 0)]∧s=⟨[],0⟩) ?_ _ _ _ ⟨rfl,rfl,rfl⟩
 rintro _ _ _ ⟨rfl,rfl,rfl⟩
 refine⟨rfl,?_⟩
 (conv=>whnf);repeat' (first  |(refine kA ?_;conv=>whnf)|(refine Br.mk (fun hc=>?_) fun hc=>?_<;>first|exact hc.elim|conv=>whnf)|(refine kB ?_))
 all_goals first | rfl | (exfalso; simp_all) | (trace_state; fail "cmpF0")
theorem orderZ {v:GV} (h:isNull v):PureP (findFn tab) 69 [v.av,gv0.av] (· =.int .i64 0):=by
 obtain⟨k,n,d,s,nn,l⟩:=v
 obtain⟨h1,h2,h3,h4,h5⟩:=h
 dsimp only at h1 h2 h3 h4 h5
 subst h1 h2 h3 h4
 obtain rfl:l=[]:=List.eq_nil_of_length_eq_zero h5
 have hc1:PureP (findFn tab) 91 [GV.av ⟨0,0,0,[],nn,[]⟩] (· =.int .i64 0):=classP (v:=⟨0,0,0,[],nn,[]⟩)
 have hc2:PureP (findFn tab) 91 [gv0.av] (· =.int .i64 0):=classP (v:=gv0)
 have hc3:PureP (findFn tab) 71 [.int .i64 0,.int .i64 0] (· =.int .i64 0):=compare
 refine pureP_of rfl rfl ?_
 (conv=>whnf);repeat' (first|(refine callK_of hc1 ?_;rintro _ rfl;conv=>whnf)|(refine callK_of hc2 ?_;rintro _ rfl;conv=>whnf)|(refine callK_of hc3 ?_;rintro _ rfl;conv=>whnf)|(refine callK_of cmpS0 ?_;rintro _ rfl;conv=>whnf)|(refine callK_of cmpF0 ?_;rintro _ rfl;conv=>whnf)|(refine callK_of or3 ?_;rintro _ rfl;conv=>whnf)|(refine kA ?_;conv=>whnf)|(refine Br.mk (fun hc=>?_) fun hc=>?_<;>first|exact hc.elim|conv=>whnf)|(refine kB ?_))
 all_goals first | rfl | (exfalso; simp_all) | (trace_state; fail "orderZ")
theorem orderNZ {v:GV} (h:v.k≠0):PureP (findFn tab) 69 [v.av,gv0.av] (fun w=>∃z,w=.int .i64 z∧z≠0):=by
 have hc2:PureP (findFn tab) 91 [gv0.av] (· =.int .i64 0):=classP (v:=gv0)
 obtain⟨z,hz,hz0⟩:∃z,cmpI (clsP v.k) 0=z∧z≠0:=⟨_,rfl,fun h0=>h (clsP0.1 (cmpI_zero.1 h0))⟩
 have hc3:PureP (findFn tab) 71 [.int .i64 (clsP v.k),.int .i64 0] (· =.int .i64 z):=hz▸compare
 refine pureP_of rfl rfl ?_
 (conv=>whnf);repeat' (first|(refine callK_of (classP (v:=v)) ?_;rintro _ rfl;conv=>whnf)|(refine callK_of hc2 ?_;rintro _ rfl;conv=>whnf)|(refine callK_of hc3 ?_;rintro _ rfl;conv=>whnf)|(refine kA ?_;conv=>whnf)|(refine Br.mk (fun hc=>?_) fun hc=>?_<;>first|exact hc.elim|conv=>whnf)|(refine kB ?_))
 all_goals first | exact ⟨_, rfl, hz0⟩ | (exfalso; omega) | (trace_state; fail "orderNZ")
theorem orderPN {v:GV} (hv:v.ok):PureP (findFn tab) 49 [v.av,gv0.av] (fun w=>∃z,w=.int .i64 z∧(z=0↔isNull v)):=by
 have hq:PureP (findFn tab) 68 [gv0.av] (· =.bool true):=by
  have:=ValidP gv0_ok;rwa [decide_eq_true ((vv_null rfl).2 null_gv0)]at this
 have hp:=ValidP hv
 by_cases hVV:VV 8 v
 ·rw[decide_eq_true hVV]at hp
  by_cases hk:v.k=0
  ·have hn:=(vv_null hk).1 hVV
   refine pureP_of rfl rfl ?_
   (conv=>whnf);repeat' (first|(refine callK_of hp ?_;rintro _ rfl;conv=>whnf)|(refine callK_of hq ?_;rintro _ rfl;conv=>whnf)|(refine callK_of (orderZ hn) ?_;rintro _ rfl;conv=>whnf)|(refine kA ?_;conv=>whnf)|(refine Br.mk (fun hc=>?_) fun hc=>?_<;>first|exact hc.elim|conv=>whnf)|(refine kB ?_))
   all_goals first | exact ⟨_, rfl, fun _ => hn, fun _ => rfl⟩ | (trace_state; fail "orderPN1")
  ·refine pureP_of rfl rfl ?_
   (conv=>whnf);repeat' (first|(refine callK_of hp ?_;rintro _ rfl;conv=>whnf)|(refine callK_of hq ?_;rintro _ rfl;conv=>whnf)|(refine callK_of (orderNZ hk) ?_;rintro _ ⟨z,rfl,hz⟩;conv=>whnf)|(refine kA ?_;conv=>whnf)|(refine Br.mk (fun hc=>?_) fun hc=>?_<;>first|exact hc.elim|conv=>whnf)|(refine kB ?_))
   all_goals first | exact ⟨_, rfl, fun h => absurd h hz, fun h => absurd h.1 hk⟩ | (trace_state; fail "orderPN2")
 ·rw[decide_eq_false hVV]at hp
  have hn:¬isNull v:=fun h=>hVV ((vv_null h.1).2 h)
  refine pureP_of rfl rfl ?_
  (conv=>whnf);repeat' (first|(refine callK_of hp ?_;rintro _ rfl;conv=>whnf)|(refine callK_of hq ?_;rintro _ rfl;conv=>whnf)|(refine kA ?_;conv=>whnf)|(refine Br.mk (fun hc=>?_) fun hc=>?_<;>first|exact hc.elim|conv=>whnf)|(refine kB ?_))
  all_goals first | exact ⟨_, rfl, fun h => absurd h (by decide), fun h => absurd h hn⟩ | (trace_state; fail "orderPN3")
section
open Go.Sort
section
variable {α:Type} [Inhabited α] {f:α→AV}
theorem nP {d:Array α} {z:Int} (i:Nat) (hz:z=i) (h:i<d.size):nth (vs f d.toList) (Int.toNat z)=some (f d[i]!):=by
 rw[nVz i hz (by simpa using h)]
 simp[h]
omit [Inhabited α]in
theorem tP {es:Nat} (hf:∀x,(f x).cells.length=es) {d:Array α} {z:Int} (i:Nat) (hz:z=i) {x y:α}:(vs f d.toList).set (Int.toNat z) (writeCells (f y) 0 (f x))=vs f (d.setIfInBounds i x).toList:=by
 subst hz
 have e:writeCells (f y) 0 (f x)=f x:=by
  unfold writeCells
  rw[if_pos ⟨rfl,by rw[hf,hf]⟩]
 rw[e]
 show(vs f d.toList).set i (f x)=_
 simp[vs,List.map_set]
theorem nPK {d:Array α} {z:Int} {K:AV→Prop} (i:Nat) (k:K (f d[i]!)) (hz:z=i:=by omega) (h:i<d.size:=by first|omega|(simp;omega)):nthK (vs f d.toList) (Int.toNat z) K:=nthK_intro (nP i hz h) k
omit [Inhabited α]in
theorem tPK {es:Nat} (hf:∀x,(f x).cells.length=es) {d:Array α} {z:Int} {x y:α} {K:List AV→Prop} (i:Nat) (k:K (vs f (d.setIfInBounds i x).toList)) (hz:z=i:=by omega):eqK ((vs f d.toList).set (Int.toNat z) (writeCells (f y) 0 (f x))) K:=eqK_intro (tP hf i hz) k
@[simp] theorem swp_sz (d:Array α) (i j:Nat):(swp d i j).size=d.size:=by simp[swp]
variable {lt:α→α→Bool} {a b i j hi first root:Nat} {d:Array α}
theorem ins_step (h1:a<j+1) (h2:lt d[j+1]! d[j]! =true):insInner lt a (j+1) d=insInner lt a j (swp d (j+1) j):=by
 rw[insInner,if_pos (by simp[h1,h2])]
theorem ins_stop (h:a<j+1→lt d[j+1]! d[j]! =false):insInner lt a (j+1) d=d:=by
 rw[insInner,if_neg]
 simp only[Bool.and_eq_true,decide_eq_true_eq,not_and]
 intro h1 h2
 rw[h h1]at h2;cases h2
theorem ins_out (h:i<b):insOuter lt a b i d=insOuter lt a b (i+1) (insInner lt a i d):=by rw[insOuter,if_pos h]
theorem ins_end (h:¬i<b):insOuter lt a b i d=d:=by rw[insOuter,if_neg h]
@[simp] theorem insInner_sz:∀{j:Nat} {d:Array α},(insInner lt a j d).size=d.size
 |0,d=>rfl
 |j+1,d=>by
  rw[insInner]
  split
  ·rw[insInner_sz,swp_sz]
  ·rfl
theorem sift_end (h:hi≤2*root+1):siftDown lt hi first root d=d:=by
 rw[siftDown,dif_pos h]
theorem sift_R (h:2*root+1+1<hi) (h1:lt d[first+(2*root+1)]! d[first+(2*root+1)+1]! =true) (h2:lt d[first+root]! d[first+(2*root+2)]! =true):
 siftDown lt hi first root d=siftDown lt hi first (2*root+2) (swp d (first+root) (first+(2*root+2))):=by
 rw[siftDown,dif_neg (by omega),if_pos (by simp[h,h1]),if_neg (by simp[h2]),dif_pos (by omega)]
theorem sift_R0 (h:2*root+1+1<hi) (h1:lt d[first+(2*root+1)]! d[first+(2*root+1)+1]! =true) (h2:lt d[first+root]! d[first+(2*root+2)]! =false):
 siftDown lt hi first root d=d:=by
 rw[siftDown,dif_neg (by omega),if_pos (by simp[h,h1]),if_pos (by simp[h2])]
theorem sift_L (h:¬hi≤2*root+1) (h1:2*root+1+1<hi→lt d[first+(2*root+1)]! d[first+(2*root+1)+1]! =false) (h2:lt d[first+root]! d[first+(2*root+1)]! =true):
 siftDown lt hi first root d=siftDown lt hi first (2*root+1) (swp d (first+root) (first+(2*root+1))):=by
 rw[siftDown,dif_neg h,if_neg,if_neg (by simp[h2])]
 simp only[Bool.and_eq_true,decide_eq_true_eq,not_and]
 intro h3 h4
 rw[h1 h3]at h4;cases h4
theorem sift_L0 (h:¬hi≤2*root+1) (h1:2*root+1+1<hi→lt d[first+(2*root+1)]! d[first+(2*root+1)+1]! =false) (h2:lt d[first+root]! d[first+(2*root+1)]! =false):
 siftDown lt hi first root d=d:=by
 rw[siftDown,dif_neg h,if_neg,if_pos (by simp[h2])]
 simp only[Bool.and_eq_true,decide_eq_true_eq,not_and]
 intro h3 h4
 rw[h1 h3]at h4;cases h4
theorem siftDown_sz {lt:α→α→Bool} {hi first:Nat}:∀(n root:Nat) (d:Array α),hi-root≤n→(siftDown lt hi first root d).size=d.size:=by
 intro n
 induction n with
 |zero=>intro root d h;rw[sift_end (by omega)]
 |succ n ih=>
  intro root d h
  rw[siftDown]
  split
  ·rfl
  ·split
   ·split
    ·rfl
    ·split
     ·rw[ih _ _ (by omega),swp_sz]
     ·rfl
   ·split
    ·rfl
    ·rw[ih _ _ (by omega),swp_sz]
@[simp] theorem sift_sz:(siftDown lt hi first root d).size=d.size:=siftDown_sz (hi-root) root d (Nat.le_refl _)
@[simp] theorem heapBuild_sz:∀{k:Nat} {d:Array α},(heapBuild lt hi first k d).size=d.size
 |0,d=>rfl
 |k+1,d=>by rw[heapBuild,heapBuild_sz,sift_sz]
end
theorem callBb {AP:Nat→Option AFn} {f:Nat} {args:List AV} {b:Bool} {K:AV→Prop} (h:PureP AP f args (· =.bool b)) (h1:b=true→K (.bool true)) (h2:b=false→K (.bool false)):callK AP f args K:=by
 refine callK_of h ?_
 rintro _ rfl
 cases b with
 |true=>exact h1 rfl
 |false=>exact h2 rfl
theorem wrapD {z:Int} {K:AV→Prop} (n k:Nat) (hz:z=n) (h:n<2^63) (h2:K (.int .i64 ((n / k:Nat):Int))):wrapK .i64 (z.tdiv k) K:=by
 subst hz
 have e:(n:Int).tdiv k=((n / k:Nat):Int):=by
  rw[Int.tdiv_eq_ediv_of_nonneg (by omega)];rfl
 rw[e]
 have h3:n / k≤n:=Nat.div_le_self ..
 revert h2 h3 e
 generalize n / k=m
 intro h2 e h3
 exact wrapK_intro (wrap_i64 (by omega) (by omega)) h2
end
section
open Go.Sort
def ltS (x y:List UInt8):Bool:=Op.bytesLess x y
theorem less_eq:∀(x y:List UInt8),Op.bytesLess x y=decide (x<y)
 |[],[]=>by simp[Op.bytesLess]
 |_::_,[]=>by simp[Op.bytesLess]
 |[],_::_=>by simp[Op.bytesLess]
 |a::x,b::y=>by
  rw[Op.bytesLess,less_eq x y]
  simp only[List.cons_lt_cons_iff]
  by_cases h1:a<b<;>by_cases h2:a=b<;>by_cases h3:x<y<;>simp[h1,h2,h3]
theorem ltS_eq:ltS=ltStr:=by
 funext x y
 exact less_eq x y
theorem ltS_swo:SWO ltS:=by rw[ltS_eq];exact swo_ltStr
theorem cellsS (x:List UInt8):(AV.str x).cells.length=1:=rfl
theorem nanS {x:List UInt8}:PureP (findFn tab) 95 [.str x] (· =.bool (decide False)):=by
 refine pureP_of rfl rfl ?_
 (conv=>whnf);repeat' (first|(refine kA ?_;conv=>whnf)|(refine Br.mk (fun hc=>?_) fun hc=>?_<;>first|exact hc.elim|conv=>whnf)  |(refine kB ?_))
 all_goals first|exact absurd rfl hc|rfl
end
section
open Go.Sort
theorem minP {a:Int} {r:List Int} {nn:Bool} (hl:(a::r).length<2^63):PureP (findFn tab) 47 [.sl nn (vs (.int .i64) (a::r))] (fun v=>∃m,v=.int .i64 m∧m∈a::r∧∀x∈a::r,m≤x):=by
 refine pureP_of rfl rfl ?_
 (conv=>whnf);repeat' (first|(refine kA ?_;conv=>whnf)|(refine Br.mk (fun hc=>?_) fun hc=>?_<;>first|exact hc.elim|conv=>whnf)  |(refine kB ?_))
 ·rw[List.length_cons]at hc;exact absurd hc (by omega)
 refine loop_inv (fun m env s=>∃(i:Nat) (z:Int),m=(a::r).length-i∧0<i∧env=[(0,.sl nn (vs (.int .i64) (a::r))),(3,.int .i64 z),(4,.int .i64 i)]∧s=⟨[],0⟩∧z∈(a::r).take i∧∀x∈(a::r).take i,z≤x) ?_ _ _ _ ⟨1,a,rfl,by omega,rfl,rfl,by simp,by simp⟩
 rintro _ _ _ ⟨i,z,rfl,hi,rfl,rfl,hz,hx⟩
 refine⟨rfl,?_⟩
 (conv=>whnf);repeat' (first|(refine kA ?_;conv=>whnf)|(refine Br.mk (fun hc=>?_) fun hc=>?_<;>first|exact hc.elim|conv=>whnf)  |(refine kB ?_))
 ·have hi2:i<(a::r).length:=by omega
  refine again.mk ⟨_,by omega,i+1,_,rfl,by omega,rfl,rfl,?_,?_⟩
  ·rw[List.take_succ_eq_append_getElem hi2,List.mem_append,List.mem_singleton]
   split
   ·exact .inr rfl
   ·exact .inl hz
  ·intro x hm
   rw[List.take_succ_eq_append_getElem hi2,List.mem_append,List.mem_singleton]at hm
   rcases hm with hm|rfl
   ·have:=hx x hm;split<;>omega
   ·split<;>omega
 ·have e:(a::r).take i=a::r:=List.take_of_length_le (by omega)
  rw[e]at hz hx
  exact⟨z,rfl,hz,hx⟩
theorem maxP {a:Int} {r:List Int} {nn:Bool} (hl:(a::r).length<2^63):PureP (findFn tab) 28 [.sl nn (vs (.int .i64) (a::r))] (fun v=>∃m,v=.int .i64 m∧m∈a::r∧∀x∈a::r,x≤m):=by
 refine pureP_of rfl rfl ?_
 (conv=>whnf);repeat' (first|(refine kA ?_;conv=>whnf)|(refine Br.mk (fun hc=>?_) fun hc=>?_<;>first|exact hc.elim|conv=>whnf)  |(refine kB ?_))
 ·rw[List.length_cons]at hc;exact absurd hc (by omega)
 refine loop_inv (fun m env s=>∃(i:Nat) (z:Int),m=(a::r).length-i∧0<i∧env=[(0,.sl nn (vs (.int .i64) (a::r))),(3,.int .i64 z),(4,.int .i64 i)]∧s=⟨[],0⟩∧z∈(a::r).take i∧∀x∈(a::r).take i,x≤z) ?_ _ _ _ ⟨1,a,rfl,by omega,rfl,rfl,by simp,by simp⟩
 rintro _ _ _ ⟨i,z,rfl,hi,rfl,rfl,hz,hx⟩
 refine⟨rfl,?_⟩
 (conv=>whnf);repeat' (first|(refine kA ?_;conv=>whnf)|(refine Br.mk (fun hc=>?_) fun hc=>?_<;>first|exact hc.elim|conv=>whnf)  |(refine kB ?_))
 ·have hi2:i<(a::r).length:=by omega
  refine again.mk ⟨_,by omega,i+1,_,rfl,by omega,rfl,rfl,?_,?_⟩
  ·rw[List.take_succ_eq_append_getElem hi2,List.mem_append,List.mem_singleton]
   split
   ·exact .inr rfl
   ·exact .inl hz
  ·intro x hm
   rw[List.take_succ_eq_append_getElem hi2,List.mem_append,List.mem_singleton]at hm
   rcases hm with hm|rfl
   ·have:=hx x hm;split<;>omega
   ·split<;>omega
 ·have e:(a::r).take i=a::r:=List.take_of_length_le (by omega)
  rw[e]at hz hx
  exact⟨z,rfl,hz,hx⟩
theorem arP {k:Int}:PureP (findFn tab) 46 [.int .i64 k] (· =.int .i64 (arityI k)):=by
 refine pureP_of rfl rfl ?_
 (conv=>whnf);repeat' (first|(refine kA ?_;conv=>whnf)|(refine Br.mk (fun hc=>?_) fun hc=>?_<;>first|exact hc.elim|conv=>whnf)  |(refine kB ?_))
 all_goals first|(unfold arityI;simp[*];done)|(unfold arityI;repeat' split)<;>first|rfl|(exfalso;omega)
theorem nm1P {s:List UInt8} (hl:s.length<2^63):PureP (findFn tab) 55 [.str s] (· =.bool (decide (¬ isName s))):=by
 refine pureP_of rfl rfl ?_
 (conv=>whnf);repeat' (first|(refine kA ?_;conv=>whnf)|(refine Br.mk (fun hc=>?_) fun hc=>?_<;>first|exact hc.elim|conv=>whnf)|(refine callB (name1 hl) (fun hr=>?_) (fun hr=>?_)<;>conv=>whnf)|(refine kB ?_))
 all_goals first|exact bool_t (by assumption)|exact bool_f (fun h=>h (by assumption))
theorem minL {l:List Int} {nn:Bool} (hl:l.length<2^63) (h0:l≠[]):PureP (findFn tab) 47 [.sl nn (vs (.int .i64) l)] (fun v=>∃m,v=.int .i64 m∧m∈l∧∀x∈l,m≤x):=by
 obtain⟨a,r,rfl⟩:=List.exists_cons_of_ne_nil h0
 exact minP hl
theorem maxL {l:List Int} {nn:Bool} (hl:l.length<2^63) (h0:l≠[]):PureP (findFn tab) 28 [.sl nn (vs (.int .i64) l)] (fun v=>∃m,v=.int .i64 m∧m∈l∧∀x∈l,x≤m):=by
 obtain⟨a,r,rfl⟩:=List.exists_cons_of_ne_nil h0
 exact maxP hl
theorem anyNm {l:List (List UInt8)} {nn:Bool} (hl:l.length<2^63) (hs:∀s∈l,Ln s):PureP (findFn tab) 78 [.sl nn (vs .str l),.fn 55 []] (fun v=>∃z,v=.int .i64 z∧(0≤z↔∃s∈l,¬isName s)):=by
 refine pureP_of rfl rfl ?_
 (conv=>whnf);repeat' (first|(refine kA ?_;conv=>whnf)|(refine Br.mk (fun hc=>?_) fun hc=>?_<;>first|exact hc.elim|conv=>whnf)  |(refine kB ?_))
 refine loop_inv (fun m env s=>∃(i:Nat),m=l.length-i∧i≤l.length∧env=[(0,.sl nn (vs .str l)),(1,.fn 55 []),(7,.int .i64 l.length),(8,.int .i64 i)]∧s=⟨[],0⟩∧∀x∈l.take i,isName x) ?_ _ _ _ ⟨0,rfl,by omega,rfl,rfl,by simp⟩
 rintro _ _ _ ⟨i,rfl,hi,rfl,rfl,hx⟩
 refine⟨rfl,?_⟩
 (conv=>whnf);repeat' (first|(refine kA ?_;conv=>whnf)|(refine Br.mk (fun hc=>?_) fun hc=>?_<;>first|exact hc.elim|conv=>whnf)  |(refine kB ?_))
 ·have hi2:i<l.length:=by omega
  refine callB (nm1P (hs _ (List.getElem_mem hi2))) (fun hr=>?_) (fun hr=>?_)
  ·(conv=>whnf);repeat' (first|(refine kA ?_;conv=>whnf)|(refine Br.mk (fun hc=>?_) fun hc=>?_<;>first|exact hc.elim|conv=>whnf)  |(refine kB ?_))
   exact⟨i,rfl,fun _=>⟨_,List.getElem_mem hi2,hr⟩,fun _=>by omega⟩
  ·(conv=>whnf);repeat' (first|(refine kA ?_;conv=>whnf)|(refine Br.mk (fun hc=>?_) fun hc=>?_<;>first|exact hc.elim|conv=>whnf)  |(refine kB ?_))
   refine again.mk ⟨_,by omega,i+1,rfl,by omega,rfl,rfl,fun x hm=>?_⟩
   rw[List.take_succ_eq_append_getElem hi2,List.mem_append,List.mem_singleton]at hm
   rcases hm with hm|rfl
   ·exact hx x hm
   ·exact Decidable.not_not.1 hr
 ·have e:l.take i=l:=List.take_of_length_le (by omega)
  rw[e]at hx
  exact⟨-1,rfl,fun h=>absurd h (by omega),fun⟨s,h1,h2⟩=>absurd (hx s h1) h2⟩
theorem anyN {l:List (List UInt8)} {nn:Bool} (hl:l.length<2^63) (hs:∀s∈l,Ln s):PureP (findFn tab) 54 [.sl nn (vs .str l),.fn 55 []] (· =.bool (decide (∃ s∈l,¬isName s))):=by
 refine pureP_of rfl rfl ?_
 (conv=>whnf);repeat' (first|(refine kA ?_;conv=>whnf)|(refine Br.mk (fun hc=>?_) fun hc=>?_<;>first|exact hc.elim|conv=>whnf)|(refine callK_of (anyNm hl hs) ?_;rintro _ ⟨z,rfl,hz⟩;conv=>whnf)|(refine kB ?_))
 all_goals first|exact bool_t (hz.1 (by omega))|exact bool_f (fun h=>absurd (hz.2 h) (by omega))|(rw [show decide (∃ s∈l,¬isName s)=decide (0≤z) from decide_eq_decide.2 hz.symm];rfl)
theorem namedP {a:GT} (ha:a.ok):PureP (findFn tab) 32 [a.av] (· =.bool (decide (NamedA a))):=by
 obtain⟨h1,h2,h3,h4,h5,h6,h7,h8,h9⟩:=ha
 refine pureP_of rfl rfl ?_
 (conv=>whnf);repeat' (first|(refine kA ?_;conv=>whnf)|(refine Br.mk (fun hc=>?_) fun hc=>?_<;>first|exact hc.elim|conv=>whnf)|(refine callB (name1 h5) (fun hr=>?_) (fun hr=>?_)<;>conv=>whnf)|(refine callB (anyN h7 h8) (fun hq=>?_) (fun hq=>?_)<;>conv=>whnf)|(refine kB ?_))
 all_goals first
  |(refine bool_f fun h=>?_;obtain⟨q1,q2⟩:=h;first|exact absurd (q2 (by omega)) hr|(obtain ⟨s,m1,m2⟩:=hq;exact m2 (q1 s m1)))
  |(refine bool_t ⟨fun t ht=>Classical.byContradiction fun hn=>hq ⟨t,ht,hn⟩,fun hk=>?_⟩;first|exact hr|(exfalso;omega))
theorem ltS_tot (x y:List UInt8) (h1:ltS x y=false) (h2:ltS y x=false):x=y:=by
 rw[ltS_eq]at h1 h2
 simp only[ltStr,decide_eq_false_iff_not]at h1 h2
 exact List.le_antisymm (List.not_lt.1 h2) (List.not_lt.1 h1)
theorem risesC {x y:List UInt8}:(Op.bytesLess y x||y==x)=false↔Op.bytesLess x y=true:=by
 constructor
 ·intro h
  rw[Bool.or_eq_false_iff]at h
  cases hc:Op.bytesLess x y with
  |true=>rfl
  |false=>
   have:=ltS_tot y x h.1 hc
   subst this
   simp at h
 ·intro h
  rw[Bool.or_eq_false_iff]
  refine⟨?_,?_⟩
  ·cases hc:Op.bytesLess y x with
   |false=>rfl
   |true=>
    have h1:ltS x x=true:=ltS_swo.trans x y x h hc
    rw[ltS_swo.irrefl x]at h1;cases h1
  ·rw[beq_eq_false_iff_ne]
   rintro rfl
   have h1:ltS y y=true:=h
   rw[ltS_swo.irrefl y]at h1;cases h1
theorem risesN {l:List (List UInt8)} (h:l=[]):rises l:=by subst h;intro j h;simp at h
theorem shapeP {a:GT} (ha:a.ok):PureP (findFn tab) 27 [a.av] (· =.bool (decide (FormA a∧∀v∈a.vars,0≤v))):=by
 obtain⟨h1,h2,h3,h4,h5,h6,h7,h8,h9⟩:=ha
 refine pureP_of rfl rfl ?_
 (conv=>whnf);repeat' (first|(refine kA ?_;conv=>whnf)|(refine Br.mk (fun hc=>?_) fun hc=>?_<;>first|exact hc.elim|conv=>whnf)|(refine callK_of arP ?_;rintro _ rfl;conv=>whnf)|(refine callK_of (minL h3 (by intro e;rw[e,List.length_nil]at hc;omega)) ?_;rintro _ ⟨m,rfl,hm,hmx⟩;conv=>whnf)|(refine callB (plain1 h9) (fun hr=>?_) (fun hr=>?_)<;>conv=>whnf)|(refine kB ?_))
 all_goals first
  |(refine bool_f fun h=>?_;obtain⟨⟨q1,q2,q3,q4,q5,q6,q7⟩,q8⟩:=h;first|omega|(have:=q8 _ hm;omega)|(rw [q4 (by omega),List.length_nil]at hc;omega)|exact hc (q5 (by omega) (by omega))|exact hr (q6 (by omega)))
  |(have hT:a.types=[]:=List.eq_nil_of_length_eq_zero (by omega)
    exact bool_t ⟨⟨by omega,by omega,risesN hT,fun _=>hT,fun e1 e2=>absurd (by assumption) e2,fun _=>hr,fun e=>absurd (by assumption) e⟩,fun v hv=>Int.le_trans (by omega) (hmx v hv)⟩)
  |skip
 all_goals
  have hT:a.k≠3→a.types=[]:=fun h=>by first|(exact List.eq_nil_of_length_eq_zero (by omega))|(exfalso;omega)
  have hN:a.k≠1→a.k≠2→a.name=[]:=fun e1 e2=>by first|assumption|(exfalso;omega)
  refine loop_inv (fun m env s=>∃i:Nat,m=a.types.length-i∧env=[(1,.ref 0 0 0 0),(4,.int .i64 (i+1:Nat))]∧s=⟨[.arr 0 9 true true [a.av]],1⟩∧∀j (h:j+1<a.types.length),j<i→(Op.bytesLess a.types[j+1] a.types[j]||a.types[j+1]==a.types[j])=false) ?_ _ _ _ ⟨0,rfl,rfl,rfl,fun j _ h=>absurd h (by omega)⟩
  rintro _ _ _ ⟨i,rfl,rfl,rfl,hx⟩
  have h7':a.types.length<2^63:=h7
  refine⟨rfl,?_⟩
  (conv=>whnf);repeat' (first|(refine kA ?_;conv=>whnf)|(refine Br.mk (fun hc=>?_) fun hc=>?_<;>first|exact hc.elim|conv=>whnf)|(apply nthK_intro;(· exact nVz i (by omega) (by omega));conv=>whnf)|(refine callK_of (orderPN h9) ?_;rintro _ ⟨z,rfl,hz⟩;conv=>whnf)|(refine kB ?_))
  all_goals (try simp only[show (((i+1:Nat):Int)-1).toNat=i by omega]at hc)
  all_goals first
   |(refine bool_f fun h=>?_
     have h9:=risesC.1 (h.1.2.2.1 i (by omega))
     rw[h9]at hc;cases hc)
   |(refine again.mk ⟨_,by omega,i+1,rfl,rfl,rfl,fun j h hj=>?_⟩
     by_cases e:j=i
     ·subst e;exact risesC.2 hc
     ·exact hx j h (by omega))
   |(have hR:rises a.types:=fun j h=>hx j h (by omega)
     exact bool_t ⟨⟨by omega,by omega,hR,hT,hN,fun e=>absurd e (by assumption),fun _=>hz.1 (by assumption)⟩,fun v hv=>Int.le_trans (by omega) (hmx v hv)⟩)
   |exact bool_f fun h=>(by assumption:¬z=0) (hz.2 (h.1.2.2.2.2.2.2 (by assumption)))
end
theorem bare {g:GV} {n d s l:Bool}:PureP (findFn tab) 140 [g.av,.bool n,.bool d,.bool s,.bool l] (fun v=>∃b,v=.bool b):=by
 cases n<;>cases d<;>cases s<;>cases l<;>(
 refine pureP_of rfl rfl ?_
 (conv=>whnf);repeat' (first|(refine kA ?_;conv=>whnf)|(refine Br.mk (fun hc=>?_) fun hc=>?_<;>first|exact hc.elim|conv=>whnf)  |(refine kB ?_))
 all_goals exact⟨_,rfl⟩)
theorem inRB {n:Int}:PureP (findFn tab) 141 [.int .i64 n] (fun v=>∃b,v=.bool b):=by
 refine pureP_of rfl rfl ?_
 (conv=>whnf);repeat' (first|(refine kA ?_;conv=>whnf)|(refine Br.mk (fun hc=>?_) fun hc=>?_<;>first|exact hc.elim|conv=>whnf)  |(refine kB ?_))
 all_goals exact⟨_,rfl⟩
theorem size {n:Int} (h1:-2^62≤n) (h2:n≤2^62):PureP (findFn tab) 123 [.int .i64 n] (fun v=>∃z,v=.int .i64 z∧0≤z∧(z=n∨z=-n)):=by
 refine pureP_of rfl rfl ?_
 (conv=>whnf);repeat' (first|(refine kA ?_;conv=>whnf)|(refine Br.mk (fun hc=>?_) fun hc=>?_<;>first|exact hc.elim|conv=>whnf)  |(refine kB ?_))
 all_goals exact⟨_,rfl,by omega,by omega⟩
theorem gcd {a b:Int} (h1:0≤a) (h2:0≤b):PureP (findFn tab) 145 [.int .i64 a,.int .i64 b] (fun v=>∃z,v=.int .i64 z):=by
 refine pureP_of rfl rfl ?_
 (conv=>whnf);repeat' (first|(refine kA ?_;conv=>whnf)|(refine Br.mk (fun hc=>?_) fun hc=>?_<;>first|exact hc.elim|conv=>whnf)  |(refine kB ?_))
 refine loop_inv (fun m env s=>∃(a b:Int),m=b.toNat∧0≤a∧0≤b∧env=[(0,.int .i64 a),(1,.int .i64 b)]∧s=⟨[],0⟩) ?_ _ _ _ ⟨a,b,rfl,h1,h2,rfl,rfl⟩
 clear h1 h2 a b
 rintro _ _ _ ⟨a,b,rfl,h1,h2,rfl,rfl⟩
 refine⟨rfl,?_⟩
 (conv=>whnf);repeat' (first|(refine kA ?_;conv=>whnf)|(refine Br.mk (fun hc=>?_) fun hc=>?_<;>first|exact hc.elim|conv=>whnf)  |(refine kB ?_))
 ·have e:a.tmod b=a % b:=Int.tmod_eq_emod_of_nonneg h1
  have:=Int.emod_lt_of_pos a (by omega:0<b)
  have:=Int.emod_nonneg a (by omega:b≠0)
  exact again.mk ⟨_,by rw[e];omega,_,_,rfl,h2,by rw[e];omega,rfl,rfl⟩
 ·exact⟨_,rfl⟩
theorem fvalid {n d:Int}:PureP (findFn tab) 119 [.agg [.int .i64 n,.int .i64 d]] (fun v=>∃b,v=.bool b∧(b=true→1≤d∧d≤1000000000000000∧-1000000000000000≤n∧n≤1000000000000000)):=by
 refine pureP_of rfl rfl ?_
 (conv=>whnf);repeat' (first|(refine kA ?_;conv=>whnf)|(refine Br.mk (fun hc=>?_) fun hc=>?_<;>first|exact hc.elim|conv=>whnf)|(refine callK_of (size (n:=n) (by omega) (by omega)) ?_;rintro _ ⟨z,rfl,hz1,hz2⟩;conv=>whnf)|(refine callK_of (gcd (by omega) (by omega)) ?_;rintro _ ⟨z2,rfl⟩;conv=>whnf)|(refine kB ?_))
 all_goals first|exact⟨_,rfl,fun _=>by omega⟩|exact⟨_,rfl,fun h=>absurd h Bool.false_ne_true⟩
theorem strOk {s:List UInt8} (hl:s.length<2^63):PureP (findFn tab) 142 [.str s] (fun v=>∃b,v=.bool b):=by
 refine pureP_of rfl rfl ?_
 (conv=>whnf);repeat' (first|(refine kA ?_;conv=>whnf)|(refine Br.mk (fun hc=>?_) fun hc=>?_<;>first|exact hc.elim|conv=>whnf)  |(refine kB ?_))
 refine loop_inv (fun m env s'=>∃i:Nat,m=s.length-i∧env=[(0,.str s),(3,.int .i64 i)]∧s'=⟨[],0⟩) ?_ _ _ _ ⟨0,rfl,rfl,rfl⟩
 rintro _ _ _ ⟨i,rfl,rfl,rfl⟩
 refine⟨rfl,?_⟩
 (conv=>whnf);repeat' (first|(refine kA ?_;conv=>whnf)|(refine Br.mk (fun hc=>?_) fun hc=>?_<;>first|exact hc.elim|conv=>whnf)  |(refine kB ?_))
 all_goals first|exact⟨_,rfl⟩|exact again.mk ⟨_,by omega,i+1,rfl,rfl,rfl⟩
theorem validLeaf {g:GV} {n:Int} (h:g.k=5∨g.k=6):PureP (findFn tab) 116 [g.av,.int .i64 n] (fun v=>∃b,v=.bool b):=by
 refine pureP_of rfl rfl ?_
 (conv=>whnf);repeat' (first|(refine kA ?_;conv=>whnf)|(refine Br.mk (fun hc=>?_) fun hc=>?_<;>first|exact hc.elim|conv=>whnf)|(refine callK_of (bare (g:=g)) ?_;rintro _ ⟨b,rfl⟩;conv=>whnf)|(refine kB ?_))
 all_goals exact⟨_,rfl⟩
theorem pathOk {l:List AV} {nn:Bool} (hl:l.length<2^63) (h:∀x∈l,Like Tryz.prog 46 x):PureP (findFn tab) 143 [.sl nn l] (fun v=>∃b,v=.bool b):=by
 refine pureP_of rfl rfl ?_
 (conv=>whnf);repeat' (first|(refine kA ?_;conv=>whnf)|(refine Br.mk (fun hc=>?_) fun hc=>?_<;>first|exact hc.elim|conv=>whnf)  |(refine kB ?_))
 all_goals first|exact⟨_,rfl⟩|skip
 refine loop_inv (fun m env s'=>∃i:Nat,m=l.length-i∧env=[(0,.sl nn l),(3,.int .i64 i)]∧s'=⟨[],0⟩) ?_ _ _ _ ⟨0,rfl,rfl,rfl⟩
 rintro _ _ _ ⟨i,rfl,rfl,rfl⟩
 refine⟨rfl,?_⟩
 obtain⟨gx,hgx⟩:=like_at h i
 (conv=>whnf);repeat' (first|(refine kA ?_;conv=>whnf)|(refine Br.mk (fun hc=>?_) fun hc=>?_<;>first|exact hc.elim|conv=>whnf)|(apply nthK_intro;(· exact(hgx (by omega)).1);conv=>whnf)|(refine callK_of (validLeaf (g:=gx) (by omega)) ?_;rintro _ ⟨b,rfl⟩;conv=>whnf)|(refine kB ?_))
 all_goals first|exact⟨_,rfl⟩|exact again.mk ⟨_,by omega,i+1,rfl,rfl,rfl⟩
theorem list0 {l:List AV} {nn:Bool} (hl:l.length<2^63):PureP (findFn tab) 144 [.sl nn l,.int .i64 0] (fun v=>∃b,v=.bool b):=by
 refine pureP_of rfl rfl ?_
 (conv=>whnf);repeat' (first|(refine kA ?_;conv=>whnf)|(refine Br.mk (fun hc=>?_) fun hc=>?_<;>first|exact hc.elim|conv=>whnf)  |(refine kB ?_))
 all_goals exact⟨_,rfl⟩
theorem listS {n:Nat} (ih:∀{g:GV},g.ok→PureP (findFn tab) 116 [g.av,.int .i64 n] (fun v=>∃b,v=.bool b)) (hn:n<2^60) {l:List AV} {nn:Bool} (hl:l.length<2^63) (h:∀x∈l,Like Tryz.prog 46 x):
 PureP (findFn tab) 144 [.sl nn l,.int .i64 (n+1:Nat)] (fun v=>∃b,v=.bool b):=by
 refine pureP_of rfl rfl ?_
 (conv=>whnf);repeat' (first|(refine kA ?_;conv=>whnf)|(refine Br.mk (fun hc=>?_) fun hc=>?_<;>first|exact hc.elim|conv=>whnf)  |(refine kB ?_))
 all_goals first|exact⟨_,rfl⟩|skip
 refine loop_inv (fun m env s'=>∃i:Nat,m=l.length-i∧env=[(0,.sl nn l),(1,.int .i64 (n+1:Nat)),(5,.int .i64 i)]∧s'=⟨[],0⟩) ?_ _ _ _ ⟨0,rfl,rfl,rfl⟩
 rintro _ _ _ ⟨i,rfl,rfl,rfl⟩
 refine⟨rfl,?_⟩
 obtain⟨gx,hgx⟩:=like_at h i
 have ih':∀{g:GV},g.ok→PureP (findFn tab) 116 [g.av,.int .i64 (((n+1:Nat):Int)-1)] (fun v=>∃b,v=.bool b):=by
  rw[show ((n+1:Nat):Int)-1=(n:Int) by omega];exact ih
 (conv=>whnf);repeat' (first|(refine kA ?_;conv=>whnf)|(refine Br.mk (fun hc=>?_) fun hc=>?_<;>first|exact hc.elim|conv=>whnf)|(apply nthK_intro;(· exact(hgx (by omega)).1);conv=>whnf)|(refine callK_of (ih' (g:=gx) (hgx (by omega)).2.2) ?_;rintro _ ⟨b,rfl⟩;conv=>whnf)|(refine kB ?_))
 all_goals first|exact⟨_,rfl⟩|exact again.mk ⟨_,by omega,i+1,rfl,rfl,rfl⟩
theorem validV {n:Int} {g:GV} (hg:g.ok) (hlist:PureP (findFn tab) 144 [.sl g.nn g.l,.int .i64 n] (fun v=>∃b,v=.bool b)):
 PureP (findFn tab) 116 [g.av,.int .i64 n] (fun v=>∃b,v=.bool b):=by
 obtain⟨g1,g2,g3,g4,g5,g6,g7⟩:=hg
 unfold Ln at g4 g5
 refine pureP_of rfl rfl ?_
 (conv=>whnf);repeat' (first|(refine kA ?_;conv=>whnf)|(refine Br.mk (fun hc=>?_) fun hc=>?_<;>first|exact hc.elim|conv=>whnf)|(refine callK_of (bare (g:=g)) ?_;rintro _ ⟨b,rfl⟩;conv=>whnf)|(refine callK_of (inRB (n:=g.n)) ?_;rintro _ ⟨b,rfl⟩;conv=>whnf)|(refine callK_of (fvalid (n:=g.n) (d:=g.d)) ?_;rintro _ ⟨b,rfl,_⟩;conv=>whnf)|(refine callK_of (strOk g4) ?_;rintro _ ⟨b,rfl⟩;conv=>whnf)|(refine callK_of (pathOk g5 g7) ?_;rintro _ ⟨b,rfl⟩;conv=>whnf)|(refine callK_of hlist ?_;rintro _ ⟨b,rfl⟩;conv=>whnf)|(refine kB ?_))
 all_goals exact⟨_,rfl⟩
theorem valid {n:Nat} (hn:n<2^60):∀{g:GV},g.ok→PureP (findFn tab) 116 [g.av,.int .i64 n] (fun v=>∃b,v=.bool b):=by
 induction n with
 |zero=>intro g hg;exact validV hg (list0 hg.2.2.2.2.1)
 |succ n ih=>intro g hg;exact validV hg (listS (ih (by omega)) (by omega) hg.2.2.2.2.1 hg.2.2.2.2.2.2)
theorem Valid {g:GV} (hg:g.ok):PureP (findFn tab) 81 [g.av] (fun v=>∃b,v=.bool b):=by
 refine pureP_of rfl rfl ?_
 (conv=>whnf);repeat' (first|(refine kA ?_;conv=>whnf)|(refine Br.mk (fun hc=>?_) fun hc=>?_<;>first|exact hc.elim|conv=>whnf)|(refine callK_of (valid (n:=8) (by omega) hg) ?_;rintro _ ⟨b,rfl⟩;conv=>whnf)|(refine kB ?_))
 all_goals exact⟨_,rfl⟩
def bareP (v:GV) (n d s l:Bool):Prop:=(n=true∨v.n=0)∧(d=true∨v.d=0)∧(s=true∨v.s=[])∧(l=true∨v.l.length=0)
instance (v:GV) (n d s l:Bool):Decidable (bareP v n d s l):=by unfold bareP;infer_instance
theorem bareE {v:GV} {n d s l:Bool} (hl:v.l.length<2^63):PureP (findFn tab) 140 [v.av,.bool n,.bool d,.bool s,.bool l] (· =.bool (decide (bareP v n d s l))):=by
 cases n<;>cases d<;>cases s<;>cases l
 all_goals
  refine pureP_of rfl rfl ?_
  (conv=>whnf);repeat' (first|(refine kA ?_;conv=>whnf)|(refine Br.mk (fun hc=>?_) fun hc=>?_<;>first|exact hc.elim|conv=>whnf)  |(refine kB ?_))
 all_goals first
  |(refine bool_t ?_;unfold bareP;refine⟨?_,?_,?_,?_⟩<;>first|(left;rfl)|(right;first|assumption|omega))
  |(refine bool_f ?_;unfold bareP;rintro⟨h1,h2,h3,h4⟩;simp only[Bool.false_eq_true,false_or,true_or]at h1 h2 h3 h4;first|contradiction|omega)
theorem strE {s:List UInt8} (hl:s.length<2^63):PureP (findFn tab) 142 [.str s] (· =.bool (decide (okS s))):=by
 refine pureP_of rfl rfl ?_
 (conv=>whnf);repeat' (first|(refine kA ?_;conv=>whnf)|(refine Br.mk (fun hc=>?_) fun hc=>?_<;>first|exact hc.elim|conv=>whnf)  |(refine kB ?_))
 refine loop_inv (fun m env s'=>∃i:Nat,m=s.length-i∧env=[(0,.str s),(3,.int .i64 i)]∧s'=⟨[],0⟩∧∀c∈s.take i,badB c=false) ?_ _ _ _ ⟨0,rfl,rfl,rfl,by simp⟩
 rintro _ _ _ ⟨i,rfl,rfl,rfl,hx⟩
 refine⟨rfl,?_⟩
 (conv=>whnf);repeat' (first|(refine kA ?_;conv=>whnf)|(refine Br.mk (fun hc=>?_) fun hc=>?_<;>first|exact hc.elim|conv=>whnf)  |(refine kB ?_))
 all_goals first
  |exact again.mk ⟨_,by omega,i+1,rfl,rfl,rfl,all_take_succ (by omega) hx (by unfold badB;simp;omega)⟩
  |(refine bool_f fun h=>?_;have:=h.2 s[i] (List.getElem_mem (by omega));unfold badB at this;simp at this;omega)
  |(rw [List.take_of_length_le (by omega)]at hx;exact bool_t ⟨by omega,hx⟩)
  |(refine bool_f fun h=>?_;have:=h.1;omega)
theorem validL {v:GV} (hv:v.ok) (hk:kindP v) {n:Int}:PureP (findFn tab) 116 [v.av,.int .i64 n] (· =.bool (decide (leafV v))):=by
 obtain⟨g1,g2,g3,g4,g5,g6,g7⟩:=hv
 unfold Ln at g4 g5
 unfold kindP at hk
 refine pureP_of rfl rfl ?_
 (conv=>whnf);repeat' (first|(refine kA ?_;conv=>whnf)|(refine Br.mk (fun hc=>?_) fun hc=>?_<;>first|exact hc.elim|conv=>whnf)|(refine callB (bareE (v:=v) g5) (fun hb=>?_) (fun hb=>?_)<;>conv=>whnf)|(refine callB (inP2 (n:=v.n)) (fun hr=>?_) (fun hr=>?_)<;>conv=>whnf)|(refine callB (strE (s:=v.s) g4) (fun hr=>?_) (fun hr=>?_)<;>conv=>whnf)|(refine kB ?_))
 all_goals unfold bareP at hb
 all_goals simp only[Bool.false_eq_true,false_or,true_or,true_and]at hb
 all_goals first
  |exact bool_t (leaf_1 (by omega) hb.1 hb.2.2 hb.2.1 (by omega))
  |exact bool_t (leaf_2 (by omega) hb.1 hb.2.2 hb.2.1 hr)
  |exact bool_t (leaf_4 (by omega) hb.2.1 hb.2.2 hb.1 hr)
  |exact bool_f fun h=>hb ⟨h.1,leaf_s h (by omega),h.2.1⟩
  |exact bool_f fun h=>hb ⟨(leaf_z h (by omega)).1,h.1,h.2.1⟩
  |(refine bool_f fun h=>?_;have:=leaf_n h (by omega);omega)
  |exact bool_f fun h=>hr (leaf_r h (by omega))
  |exact bool_f fun h=>hr (leaf_z h (by omega)).2
  |(exfalso;omega)
theorem ValidL {v:GV} (hv:v.ok) (hk:kindP v):PureP (findFn tab) 81 [v.av] (· =.bool (decide (leafV v))):=by
 refine pureP_of rfl rfl ?_
 (conv=>whnf);repeat' (first|(refine kA ?_;conv=>whnf)|(refine Br.mk (fun hc=>?_) fun hc=>?_<;>first|exact hc.elim|conv=>whnf)|(refine callB (validL (v:=v) hv hk) (fun hr=>?_) (fun hr=>?_)<;>conv=>whnf)|(refine kB ?_))
 all_goals first|exact bool_t (by assumption)|exact bool_f (by assumption)
theorem plain2 {v:GV} (hv:v.ok):PureP (findFn tab) 64 [v.av] (· =.bool (decide (leafV v))):=by
 by_cases hk:kindP v
 ·have hk':=hk
  unfold kindP at hk'
  refine pureP_of rfl rfl ?_
  (conv=>whnf);repeat' (first|(refine kA ?_;conv=>whnf)|(refine Br.mk (fun hc=>?_) fun hc=>?_<;>first|exact hc.elim|conv=>whnf)|(refine callB (ValidL (v:=v) hv hk) (fun hr=>?_) (fun hr=>?_)<;>conv=>whnf)|(refine kB ?_))
  all_goals first|exact bool_t (by assumption)|exact bool_f (by assumption)|(exfalso;omega)
 ·have hk':=hk
  unfold kindP at hk'
  refine pureP_of rfl rfl ?_
  (conv=>whnf);repeat' (first|(refine kA ?_;conv=>whnf)|(refine Br.mk (fun hc=>?_) fun hc=>?_<;>first|exact hc.elim|conv=>whnf)|(refine callK_of (Valid (g:=v) hv) ?_;rintro _ ⟨b,rfl⟩;conv=>whnf)|(refine kB ?_))
  all_goals first|exact bool_f (fun h=>hk (leaf_kind h))|(exfalso;omega)
theorem number {g:GV} (hg:g.ok):PureP (findFn tab) 86 [g.av] (fun v=>∃n d b,v=.tup [.agg [.int .i64 n,.int .i64 d],.bool b]):=by
 refine pureP_of rfl rfl ?_
 (conv=>whnf);repeat' (first|(refine kA ?_;conv=>whnf)|(refine Br.mk (fun hc=>?_) fun hc=>?_<;>first|exact hc.elim|conv=>whnf)|(refine callK_of (Valid hg) ?_;rintro _ ⟨b,rfl⟩;conv=>whnf)|(refine kB ?_))
 all_goals exact⟨_,_,_,rfl⟩
theorem classV {k:Int}:PureP (findFn tab) 85 [.int .i64 k] (fun v=>∃z,v=.int .i64 z):=by
 refine pureP_of rfl rfl ?_
 (conv=>whnf);repeat' (first|(refine kA ?_;conv=>whnf)|(refine Br.mk (fun hc=>?_) fun hc=>?_<;>first|exact hc.elim|conv=>whnf)  |(refine kB ?_))
 all_goals exact⟨_,rfl⟩
theorem ints0 {k:Int}:PureP (findFn tab) 84 [.int .i64 k,.int .i64 k] (· =.int .i64 0):=by
 refine pureP_of rfl rfl ?_
 (conv=>whnf);repeat' (first|(refine kA ?_;conv=>whnf)|(refine Br.mk (fun hc=>?_) fun hc=>?_<;>first|exact hc.elim|conv=>whnf)  |(refine kB ?_))
 all_goals rfl
theorem less_self:∀s:List UInt8,Op.bytesLess s s=false
 |[]=>rfl
 |a::s=>by simp[Op.bytesLess,less_self s]
theorem strs0 {s:List UInt8}:PureP (findFn tab) 117 [.str s,.str s] (· =.int .i64 0):=by
 refine pureP_of rfl rfl ?_
 (conv=>whnf);repeat' (first|(refine kA ?_;conv=>whnf)|(refine Br.mk (fun hc=>?_) fun hc=>?_<;>first|exact hc.elim|conv=>whnf)  |(refine kB ?_))
 all_goals first|rfl|(exfalso;simp[less_self]at hc)
end AI
end Go.Proofs.YtlbjddhbkhgceaaGreatDoor
