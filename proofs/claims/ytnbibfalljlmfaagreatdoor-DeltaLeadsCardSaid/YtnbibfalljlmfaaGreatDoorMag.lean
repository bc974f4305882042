/- Sorting in place: lists of a store against arrays of the library's plain sort. math/bits.Len and the next power of two. Orders: lexicographic, of numbers, of strings; the first that is not 0. Names: the program's and the reference's. value.Plain and the reference's Plain: which values may be stored. Valid values, and values that are alike: plain. -/
import Derived.Test.YtnbibfalljlmfaaGreatDoorGrCode
import Derived.Test.YtnbibfalljlmfaaGreatDoorMaa
import Derived.Sort.AssemblyPlain
import Derived.Test.YtnbibfalljlmfaaGreatDoorMaf
import Derived.Test.YtnbibfalljlmfaaGreatDoorMad
set_option linter.unusedVariables false
set_option maxRecDepth 4000
namespace Go.Proofs.YtnbibfalljlmfaaGreatDoor
namespace AI
section
open Go.Sort
section
variable {α:Type} [Inhabited α] {f:α→AV}
theorem nP {d:Array α} {z:Int} (i:Nat) (hz:z=i) (h:i<d.size):nth (vs f d.toList) (Int.toNat z)=some (f d[i]!):=by
  rw[nVz i hz (by simpa using h)]
  simp[h]
omit [Inhabited α]in
theorem tP {es:Nat} (hf:∀x,(f x).cells.length=es) {d:Array α} {z:Int} (i:Nat) (hz:z=i) {x y:α}:(vs f d.toList).set (Int.toNat z) (writeCells (f y) 0 (f x))=vs f (d.setIfInBounds i x).toList:=by
  subst hz
  have e:writeCells (f y) 0 (f x)=f x:=by
    unfold writeCells
    rw[if_pos ⟨rfl,by rw[hf,hf]⟩]
  rw[e]
  show(vs f d.toList).set i (f x)=_
  simp[vs,List.map_set]
theorem nPK {d:Array α} {z:Int} {K:AV→Prop} (i:Nat) (k:K (f d[i]!)) (hz:z=i:=by omega) (h:i<d.size:=by first|omega|(simp;omega)):Iw (vs f d.toList) (Int.toNat z) K:=LX (nP i hz h) k
omit [Inhabited α]in
theorem tPK {es:Nat} (hf:∀x,(f x).cells.length=es) {d:Array α} {z:Int} {x y:α} {K:List AV→Prop} (i:Nat) (k:K (vs f (d.setIfInBounds i x).toList)) (hz:z=i:=by omega):eqK ((vs f d.toList).set (Int.toNat z) (writeCells (f y) 0 (f x))) K:=KJ (tP hf i hz) k
@[simp] theorem swp_sz (d:Array α) (i j:Nat):(swp d i j).size=d.size:=by simp[swp]
variable {lt:α→α→Bool} {a b i j hi first root:Nat} {d:Array α}
theorem Awy (h1:a<j+1) (h2:lt d[j+1]! d[j]! =true):insInner lt a (j+1) d=insInner lt a j (swp d (j+1) j):=by
  rw[insInner,if_pos (by simp[h1,h2])]
theorem Alr (h:a<j+1→lt d[j+1]! d[j]! =false):insInner lt a (j+1) d=d:=by
  rw[insInner,if_neg]
  simp only[Bool.and_eq_true,decide_eq_true_eq,not_and]
  intro h1 h2
  rw[h h1]at h2;cases h2
theorem ABc (h:i<b):insOuter lt a b i d=insOuter lt a b (i+1) (insInner lt a i d):=by rw[insOuter,if_pos h]
theorem ABd (h:¬i<b):insOuter lt a b i d=d:=by rw[insOuter,if_neg h]
@[simp] theorem insInner_sz:∀{j:Nat} {d:Array α},(insInner lt a j d).size=d.size
  |0,d=>rfl
  | j+1,d=>by
    rw[insInner]
    split
    · rw[insInner_sz,swp_sz]
    · rfl
theorem Azb (h:hi≤2*root+1):siftDown lt hi first root d=d:=by
  rw[siftDown,dif_pos h]
theorem AJ4 (h:2*root+1+1<hi) (h1:lt d[first+(2*root+1)]! d[first+(2*root+1)+1]! =true) (h2:lt d[first+root]! d[first+(2*root+2)]! =true):
    siftDown lt hi first root d=siftDown lt hi first (2*root+2) (swp d (first+root) (first+(2*root+2))):=by
  rw[siftDown,dif_neg (by omega),if_pos (by simp[h,h1]),if_neg (by simp[h2]),dif_pos (by omega)]
theorem ABe (h:2*root+1+1<hi) (h1:lt d[first+(2*root+1)]! d[first+(2*root+1)+1]! =true) (h2:lt d[first+root]! d[first+(2*root+2)]! =false):
    siftDown lt hi first root d=d:=by
  rw[siftDown,dif_neg (by omega),if_pos (by simp[h,h1]),if_pos (by simp[h2])]
theorem Axf (h:¬hi≤2*root+1) (h1:2*root+1+1<hi→lt d[first+(2*root+1)]! d[first+(2*root+1)+1]! =false) (h2:lt d[first+root]! d[first+(2*root+1)]! =true):
    siftDown lt hi first root d=siftDown lt hi first (2*root+1) (swp d (first+root) (first+(2*root+1))):=by
  rw[siftDown,dif_neg h,if_neg,if_neg (by simp[h2])]
  simp only[Bool.and_eq_true,decide_eq_true_eq,not_and]
  intro h3 h4
  rw[h1 h3]at h4;cases h4
theorem Aum (h:¬hi≤2*root+1) (h1:2*root+1+1<hi→lt d[first+(2*root+1)]! d[first+(2*root+1)+1]! =false) (h2:lt d[first+root]! d[first+(2*root+1)]! =false):
    siftDown lt hi first root d=d:=by
  rw[siftDown,dif_neg h,if_neg,if_pos (by simp[h2])]
  simp only[Bool.and_eq_true,decide_eq_true_eq,not_and]
  intro h3 h4
  rw[h1 h3]at h4;cases h4
theorem siftDown_sz {lt:α→α→Bool} {hi first:Nat}:∀(n root:Nat) (d:Array α),hi-root≤n→(siftDown lt hi first root d).size=d.size:=by
  intro n
  induction n with
  |zero=>intro root d h;rw[Azb (by omega)]
  | succ n ih=>
    intro root d h
    rw[siftDown]
    split
    · rfl
    · split
      · split
        · rfl
        · split
          · rw[ih _ _ (by omega),swp_sz]
          · rfl
      · split
        · rfl
        · rw[ih _ _ (by omega),swp_sz]
@[simp] theorem sift_sz:(siftDown lt hi first root d).size=d.size:=siftDown_sz (hi-root) root d (Nat.le_refl _)
@[simp] theorem heapBuild_sz:∀{k:Nat} {d:Array α},(heapBuild lt hi first k d).size=d.size
  |0,d=>rfl
  |k+1,d=>by rw[heapBuild,heapBuild_sz,sift_sz]
end
theorem AcQ {AP:Nat→Option AFn} {f:Nat} {args:List AV} {b:Bool} {K:AV→Prop} (h:D8 AP f args (· =.bool b)) (h1:b=true→K (.bool true)) (h2:b=false→K (.bool false)):callK AP f args K:=by
  refine BM h ?_
  rintro _ rfl
  cases b with
  |true=>exact h1 rfl
  |false=>exact h2 rfl
theorem AgJ {z:Int} {K:AV→Prop} (n k:Nat) (hz:z=n) (h:n<2^63) (h2:K (.int .i64 ((n / k:Nat):Int))):ARy .i64 (z.tdiv k) K:=by
  subst hz
  have e:(n:Int).tdiv k=((n / k:Nat):Int):=by
    rw[Int.tdiv_eq_ediv_of_nonneg (by omega)];rfl
  rw[e]
  have h3:n / k≤n:=Nat.div_le_self ..
  revert h2 h3 e
  generalize n / k=m
  intro h2 e h3
  exact ZH (wrap_i64 (by omega) (by omega)) h2
end
section
open Go.Sort
theorem AJ9 {k:IntKind} {z:Int} (hk:k.signed=false) (h:0≤z) (h2:z<2 ^ k.bits):k.wrap z=z:=by
  simp only[IntKind.wrap,hk,Bool.false_and,Bool.false_eq_true,if_false]
  exact Int.emod_eq_of_lt h h2
theorem wrapN {k:IntKind} {z:Int} {K:AV→Prop} (n:Nat) (hk:k.signed=false) (hz:z=n) (h:n<2 ^ k.bits) (h2:K (.int k n)):ARy k z K:=by
  subst hz
  refine ZH (AJ9 hk (by omega) ?_) h2
  exact_mod_cast h
theorem bitsLen_div {n:Nat} (k:Nat) (h:2 ^ k≤n):bitsLen (n / 2 ^ k)+k=bitsLen n:=by
  have h0:k<bitsLen n:=by
    rcases Nat.lt_or_ge k (bitsLen n)with h1|h1
    · exact h1
    · have:=(bitsLen_le_iff n k).1 h1;omega
  have e1:bitsLen (n / 2 ^ k)≤bitsLen n-k:=by
    rw[bitsLen_le_iff,Nat.div_lt_iff_lt_mul (Nat.two_pow_pos k),←Nat.pow_add,Nat.sub_add_cancel (by omega)]
    exact lt_two_pow_bitsLen n
  have e2:bitsLen n≤bitsLen (n / 2 ^ k)+k:=by
    rw[bitsLen_le_iff,Nat.pow_add,←Nat.div_lt_iff_lt_mul (Nat.two_pow_pos k)]
    exact lt_two_pow_bitsLen _
  omega
def lenTab:List UInt8:=[0,1,2,2,3,3,3,3,4,4,4,4,4,4,4,4]++List.replicate 16 5++List.replicate 32 6++List.replicate 64 7++List.replicate 128 8
theorem lenTab_all:(List.range 256).all (fun n=>nth lenTab n==some (UInt8.ofNat (bitsLen n))&&Nat.ble (bitsLen n) 8)=true:=by decide +kernel
theorem lenTab_at {n:Nat} (h:n<256):nth lenTab n=some (UInt8.ofNat (bitsLen n))∧bitsLen n≤8:=by
  have:=List.all_eq_true.1 lenTab_all n (List.mem_range.2 h)
  rw[Bool.and_eq_true]at this
  exact⟨by simpa using this.1,Nat.le_of_ble_eq_true this.2⟩
theorem shr32 (n:Nat):((n:Int)).fdiv (2 ^ (min (Int.toNat 32) IntKind.u64.bits))=((n / 2 ^ 32:Nat):Int):=by
  rw[show (2:Int) ^ (min (Int.toNat 32) IntKind.u64.bits)=4294967296 by rfl,Int.fdiv_eq_ediv_of_nonneg _ (by omega)]
  rfl
theorem shr16 (n:Nat):((n:Int)).fdiv (2 ^ (min (Int.toNat 16) IntKind.u64.bits))=((n / 2 ^ 16:Nat):Int):=by
  rw[show (2:Int) ^ (min (Int.toNat 16) IntKind.u64.bits)=65536 by rfl,Int.fdiv_eq_ediv_of_nonneg _ (by omega)]
  rfl
theorem shr8 (n:Nat):((n:Int)).fdiv (2 ^ (min (Int.toNat 8) IntKind.u64.bits))=((n / 2 ^ 8:Nat):Int):=by
  rw[show (2:Int) ^ (min (Int.toNat 8) IntKind.u64.bits)=256 by rfl,Int.fdiv_eq_ediv_of_nonneg _ (by omega)]
  rfl
theorem u8_nat {m:Nat} (h:m≤8):(UInt8.ofNat m).toNat=m:=by
  rw[UInt8.toNat_ofNat']
  exact Nat.mod_eq_of_lt (by omega)
set_option maxRecDepth 100000 in
theorem lenK {n:Nat} {K:UInt8→Prop} (hn:n<256) (h:bitsLen n≤8→K (UInt8.ofNat (bitsLen n))):Iw lenTab (Int.toNat (n:Int)) K:=
  LX (lenTab_at hn).1 (h (lenTab_at hn).2)
set_option maxRecDepth 100000 in
theorem len64 {n:Nat} (h:n<2^64):D8 (Dx tab) 185 [.int .u64 n] (· =.int .i64 (bitsLen n)):=by
  refine Lu rfl rfl ?_
  (conv=>whnf);repeat' (first|(apply KJ;(· first|exact shr32 _|exact shr16 _|exact shr8 _);conv=>whnf)|(refine wrapN _ rfl rfl (by show _<256;omega) ?_;conv=>whnf)|(refine lenK (by omega) (fun hb=>?_);rw[u8_nat hb];conv=>whnf)|((with_reducible first|apply kN|apply kW|apply kX|apply kG|apply kQ);(· exact sd);conv=>whnf)|(refine DW.mk ?_ ?_<;>intro hc<;>(try rw[List.length_nil]at hc)<;>first|(exfalso;omega)|(exact absurd rfl hc)|conv=>whnf)|(refine CB ?_ ?_<;>intro hc<;>conv=>whnf))
  all_goals
    show AV.int _ _=_
    congr 1
    first
      |(rw [← bitsLen_div 32 (n:=n) (by omega),←bitsLen_div 16 (n:=n / 2 ^ 32) (by omega),←bitsLen_div 8 (n:=n / 2 ^ 32 / 2 ^ 16) (by omega)];omega)
      |(rw [← bitsLen_div 32 (n:=n) (by omega),←bitsLen_div 16 (n:=n / 2 ^ 32) (by omega)];omega)
      |(rw [← bitsLen_div 32 (n:=n) (by omega),←bitsLen_div 8 (n:=n / 2 ^ 32) (by omega)];omega)
      |(rw [← bitsLen_div 32 (n:=n) (by omega)];omega)
      |(rw [← bitsLen_div 16 (n:=n) (by omega),←bitsLen_div 8 (n:=n / 2 ^ 16) (by omega)];omega)
      |(rw [← bitsLen_div 16 (n:=n) (by omega)];omega)
      |(rw [← bitsLen_div 8 (n:=n) (by omega)];omega)
      |omega
theorem Azn {n:Nat} (h:n<2^63):D8 (Dx tab) 102 [.int .u64 n] (· =.int .i64 (bitsLen n)):=by
  refine Lu rfl rfl ?_
  (conv=>whnf);repeat' (first|(refine BM (len64 (n:=n) (by omega)) ?_;rintro _ rfl;conv=>whnf)|((with_reducible first|apply kN|apply kW|apply kX|apply kG|apply kQ);(· exact sd);conv=>whnf)|(refine DW.mk ?_ ?_<;>intro hc<;>(try rw[List.length_nil]at hc)<;>first|(exfalso;omega)|(exact absurd rfl hc)|conv=>whnf)|(refine CB ?_ ?_<;>intro hc<;>conv=>whnf))
  rfl
theorem AyG {n:Nat} (h:n<2^62) (h0:0<n):D8 (Dx tab) 241 [.int .i64 n] (fun v=>∃M:Nat,v=.int .u64 M∧n<M∧M≤2*n):=by
  have h1:=lt_two_pow_bitsLen n
  have h2:=two_pow_bitsLen_le h0
  have h3:bitsLen n≤62:=(bitsLen_le_iff n 62).2 h
  refine Lu rfl rfl ?_
  (conv=>whnf);repeat' (first|(refine wrapN n rfl rfl (by show n<2^64;omega) ?_;conv=>whnf)|(refine BM (Azn (n:=n) (by omega)) ?_;rintro _ rfl;conv=>whnf)|(refine wrapN (2 ^ bitsLen n) rfl ?_ (by show _<2^64;omega) ?_;(· rw[Int.one_mul,Int.toNat_natCast,Nat.min_eq_left (by show _≤64;omega)];simp);conv=>whnf)|((with_reducible first|apply kN|apply kW|apply kX|apply kG|apply kQ);(· exact sd);conv=>whnf)|(refine DW.mk ?_ ?_<;>intro hc<;>(try rw[List.length_nil]at hc)<;>first|(exfalso;omega)|(exact absurd rfl hc)|conv=>whnf)|(refine CB ?_ ?_<;>intro hc<;>conv=>whnf))
  exact⟨_,rfl,h1,h2⟩
section
variable {α:Type} [Inhabited α] {lt:α→α→Bool} {a b i j:Nat} {d:Array α}
theorem Azx (h:i<b) (h2:lt d[i]! d[i-1]! =false):scanSorted lt d b i=scanSorted lt d b (i+1):=by
  rw[scanSorted,if_pos (by simp[h,h2])]
theorem AkW (h:i<b→lt d[i]! d[i-1]! =true):scanSorted lt d b i=i:=by
  rw[scanSorted,if_neg]
  simp only[Bool.and_eq_true,decide_eq_true_eq,not_and]
  intro h1 h2
  rw[h h1]at h2;cases h2
theorem AKv (h:lt d[j+1]! d[j]! =true):shiftDown lt (j+1) d=shiftDown lt j (swp d (j+1) j):=by
  rw[shiftDown,if_neg (by simp[h])]
theorem Azz (h:lt d[j+1]! d[j]! =false):shiftDown lt (j+1) d=d:=by
  rw[shiftDown,if_pos (by simp[h])]
theorem AKw (h0:j<b) (h:lt d[j]! d[j-1]! =true):shiftUp lt b j d=shiftUp lt b (j+1) (swp d j (j-1)):=by
  rw[shiftUp,if_pos h0,if_neg (by simp[h])]
theorem Aps (h:j<b→lt d[j]! d[j-1]! =false):shiftUp lt b j d=d:=by
  rw[shiftUp]
  split
  · rename_i h0
    rw[if_pos (by simp[h h0])]
  · rfl
@[simp] theorem shD_sz:∀{j:Nat} {d:Array α},(shiftDown lt j d).size=d.size
  |0,d=>rfl
  | j+1,d=>by
    rw[shiftDown]
    split
    · rfl
    · rw[shD_sz,swp_sz]
theorem shU_sz':∀(n j:Nat) (d:Array α),b-j≤n→(shiftUp lt b j d).size=d.size
  |0,j,d,h=>by rw[shiftUp,if_neg (by omega)]
  | n +1,j,d,h=>by
    rw[shiftUp]
    split
    · split
      · rfl
      · rw[shU_sz' n _ _ (by omega),swp_sz]
    · rfl
@[simp] theorem shU_sz:(shiftUp lt b j d).size=d.size:=shU_sz' (b-j) j d (Nat.le_refl _)
@[simp] theorem fixD_sz:(fixDown lt a i d).size=d.size:=by unfold fixDown;split<;>simp
@[simp] theorem fixU_sz:(fixUp lt b i d).size=d.size:=by unfold fixUp;split<;>simp
variable {p:α→Bool}
theorem Apt (h:i≤j) (h2:p d[i]! =true):scanUp p d j i=scanUp p d j (i+1):=by
  rw[scanUp,if_pos (by simp[h,h2])]
theorem Ye (h:i≤j→p d[i]! =false):scanUp p d j i=i:=by
  rw[scanUp,if_neg]
  simp only[Bool.and_eq_true,decide_eq_true_eq,not_and]
  intro h1 h2
  rw[h h1]at h2;cases h2
theorem Apu (h:i≤j+1) (h2:p d[j+1]! =true):scanDown p d i (j+1)=scanDown p d i j:=by
  rw[scanDown,if_pos (by simp[h,h2])]
theorem Yf (h:i≤j→p d[j]! =false):scanDown p d i j=j:=by
  cases j with
  |zero=>rfl
  | succ j=>
    rw[scanDown,if_neg]
    simp only[Bool.and_eq_true,decide_eq_true_eq,not_and]
    intro h1 h2
    rw[h h1]at h2;cases h2
end
theorem YL {AP:Nat→Option AFn} {a b:Dw} {env:Env} {s:Sto} {Q:Je→Env→Sto→Prop} (h:vC AP a env s (AkT (fun env s=>vC AP b env s Q) Q)):vC AP (.seq a b) env s Q:=h
theorem ABn {α:Type} [Inhabited α] {L:List α} {D:Array α} {len:Nat} (hl:L.length=len) (h:PermIn 0 len L.toArray D):D.toList.Perm L:=by
  obtain⟨h1,_,h3⟩:=h
  have e1:D.size=len:=by rw[h1];simpa using hl
  have e2:(D.extract 0 len).toList=D.toList:=by rw[← e1];simp
  have e3:(L.toArray.extract 0 len).toList=L:=by rw[← hl];simp
  rw[e2,e3]at h3
  exact h3
theorem AyH {α:Type} [Inhabited α] {lt:α→α→Bool} {D:Array α} {len:Nat} (hl:D.size=len) (h:SortedIn lt 0 len D):D.toList.Pairwise (fun x y=>lt y x=false):=by
  rw[List.pairwise_iff_getElem]
  intro i j hi hj hij
  have:=h i j (Nat.zero_le _) hij (by simpa[hl]using hj)
  simp only[Array.length_toList]at hi hj
  rw[getElem!_pos D j hj,getElem!_pos D i hi]at this
  simpa using this
end
section
open Go.Sort
def NH (a b:Int):Int:=if a=0 then b else a
def cS (x y:List UInt8):Int:=if Op.bytesLess x y=true then -1 else if Op.bytesLess y x=true then 1 else 0
structure PC {α:Type} (c:α→α→Int):Prop where
  anti:∀x y,c y x=-c x y
  trans:∀x y z,c x y≤0→c y z≤0→c x z≤0
theorem PC.lex {α:Type} {c d:α→α→Int} (hc:PC c) (hd:PC d):PC fun x y=>NH (c x y) (d x y) where
  anti x y:=by
    have h1:=hc.anti x y
    have h2:=hd.anti x y
    unfold NH;split<;>split<;>omega
  trans x y z h1 h2:=by
    have a1:=hc.trans x y z
    have a2:=hc.trans y z x
    have a3:=hc.trans z x y
    have b1:=hc.anti x y
    have b2:=hc.anti y z
    have b3:=hc.anti x z
    have d1:=hd.trans x y z
    unfold NH at*
    split at h1<;>split at h2<;>split<;>omega
theorem PC.on {α β:Type} {c:β→β→Int} (h:PC c) (p:α→β):PC fun x y=>c (p x) (p y):=⟨fun x y=>h.anti _ _,fun x y z=>h.trans _ _ _⟩
theorem Auz : PC Qr where
  anti x y := by unfold Qr;repeat' split
                 all_goals omega
  trans x y z := by unfold Qr;repeat' split
                    all_goals omega
theorem AT6:∀(x y:List UInt8),Op.bytesLess x y=decide (x<y)
  |[],[]=>by simp[Op.bytesLess]
  |_::_,[]=>by simp[Op.bytesLess]
  |[],_::_=>by simp[Op.bytesLess]
  | a::x,b::y=>by
    rw[Op.bytesLess,AT6 x y]
    simp only[List.cons_lt_cons_iff]
    by_cases h1:a<b<;>by_cases h2:a=b<;>by_cases h3:x<y<;>simp[h1,h2,h3]
theorem bl_eq (x y:List UInt8):Op.bytesLess x y=ltStr x y:=AT6 x y
theorem bl_tot {x y:List UInt8} (h1:Op.bytesLess x y=false) (h2:Op.bytesLess y x=false):x=y:=by
  rw[bl_eq]at h1 h2
  simp only[ltStr,decide_eq_false_iff_not]at h1 h2
  exact List.le_antisymm (List.not_lt.1 h2) (List.not_lt.1 h1)
theorem AKL:PC cS where
  anti x y:=by
    have h:Op.bytesLess x y=true→Op.bytesLess y x=true→False:=fun a b=>by
      rw[bl_eq]at a b
      have:=swo_ltStr.trans x y x a b
      rw[swo_ltStr.irrefl]at this;cases this
    unfold cS
    by_cases a:Op.bytesLess x y=true<;>by_cases b:Op.bytesLess y x=true<;>simp[a,b]
    exact h a b
  trans x y z h1 h2:=by
    have n1:Op.bytesLess y x=false:=by
      unfold cS at h1
      split at h1
      · rename_i a
        cases hb:Op.bytesLess y x with
        |false=>rfl
        | true=>
          rw[bl_eq]at a hb
          have:=swo_ltStr.trans x y x a hb
          rw[swo_ltStr.irrefl]at this;cases this
      · split at h1
        · omega
        · rename_i b;simpa using b
    have n2:Op.bytesLess z y=false:=by
      unfold cS at h2
      split at h2
      · rename_i a
        cases hb:Op.bytesLess z y with
        |false=>rfl
        | true=>
          rw[bl_eq]at a hb
          have:=swo_ltStr.trans y z y a hb
          rw[swo_ltStr.irrefl]at this;cases this
      · split at h2
        · omega
        · rename_i b;simpa using b
    have n3:Op.bytesLess z x=false:=by rw[bl_eq]at *;exact swo_ltStr.ntrans z y x n2 n1
    unfold cS
    split
    · omega
    · rw[n3];simp
theorem ABX {x y:List UInt8}:cS x y=0↔x=y:=by
  constructor
  · intro h
    unfold cS at h
    split at h
    · omega
    · split at h
      · omega
      · rename_i a b;exact bl_tot (by simpa using a) (by simpa using b)
  · rintro rfl
    have:=AKL.anti x x
    omega
theorem APb {a b:Int}:NH a b=0↔a=0∧b=0:=by unfold NH;split<;>omega
theorem AWE {x:List UInt8}:D8 (Dx tab) 194 [.str x] (· =.bool false):=by
  refine Lu rfl rfl ?_
  (conv=>whnf);repeat' (first  |((with_reducible first|apply kN|apply kW|apply kX|apply kG|apply kQ);(· exact sd);conv=>whnf)|(refine DW.mk ?_ ?_<;>intro hc<;>(try rw[List.length_nil]at hc)<;>first|(exfalso;omega)|(exact absurd rfl hc)|conv=>whnf)|(refine CB ?_ ?_<;>intro hc<;>conv=>whnf))
  all_goals first | rfl | (exfalso; simp_all) | (trace_state; fail "nanSR")
theorem AWL {x y:List UInt8} (h:Op.bytesLess x y=true):AV.int .i64 (-1)=.int .i64 (cS x y):=by unfold cS;rw[if_pos h]
theorem AWM {x y:List UInt8} (h:Op.bytesLess x y=false) (h2:(Op.bytesLess x y||x==y)=true):AV.int .i64 0=.int .i64 (cS x y):=by
  rw[h,Bool.false_or,beq_iff_eq]at h2
  rw[ABX.2 h2]
theorem AWN {x y:List UInt8} (h2:(Op.bytesLess x y||x==y)=false):AV.int .i64 1=.int .i64 (cS x y):=by
  rw[Bool.or_eq_false_iff,beq_eq_false_iff_ne]at h2
  have h3:Op.bytesLess y x=true:=by
    cases h:Op.bytesLess y x with
    |true=>rfl
    |false=>exact absurd (bl_tot h2.1 h) h2.2
  unfold cS;rw[h2.1,h3];rfl
theorem AwA {x y:List UInt8}:D8 (Dx tab) 113 [.str x,.str y] (· =.int .i64 (cS x y)):=by
  refine Lu rfl rfl ?_
  (conv=>whnf);repeat' (first|(refine BM AWE ?_;rintro _ rfl;conv=>whnf)|((with_reducible first|apply kN|apply kW|apply kX|apply kG|apply kQ);(· exact sd);conv=>whnf)|(refine DW.mk ?_ ?_<;>intro hc<;>(try rw[List.length_nil]at hc)<;>first|(exfalso;omega)|(exact absurd rfl hc)|conv=>whnf)|(refine CB ?_ ?_<;>intro hc<;>conv=>whnf))
  all_goals first | exact AWL hc | exact AWM (by assumption) hc | exact AWN hc | (trace_state; fail "compareS")
def fnz:List Int→Int
  |[]=>0
  |a::l=>NH a (fnz l)
theorem fnz_drop {l:List Int} {i:Nat} (h:i<l.length):fnz (l.drop i)=NH l[i] (fnz (l.drop (i+1))):=by
  rw[List.drop_eq_getElem_cons h];rfl
theorem orV {l:List Int} {nn:Bool} (hl:l.length<2^62):D8 (Dx tab) 112 [.sl nn (vs (.int .i64) l)] (· =.int .i64 (fnz l)):=by
  refine Lu rfl rfl ?_
  (conv=>whnf);repeat' (first  |((with_reducible first|apply kN|apply kW|apply kX|apply kG|apply kQ);(· exact sd);conv=>whnf)|(refine DW.mk ?_ ?_<;>intro hc<;>(try rw[List.length_nil]at hc)<;>first|(exfalso;omega)|(exact absurd rfl hc)|conv=>whnf)|(refine CB ?_ ?_<;>intro hc<;>conv=>whnf))
  refine DK (fun m env s=>∃i:Nat,m=l.length-i∧fnz (l.drop i)=fnz l∧env=[(3,.int .i64 0),(6,.sl nn (vs (.int .i64) l)),(7,.int .i64 l.length),(8,.int .i64 i)]∧s=⟨[],0⟩) ?_ _ _ _ ⟨0,rfl,by simp,by first|rfl|(rw [← lV (f:=.int .i64) l];rfl),rfl⟩
  rintro _ _ _ ⟨i,rfl,hx,rfl,rfl⟩
  refine⟨rfl,?_⟩
  by_cases hlt:i<l.length
  · rw[fnz_drop hlt]at hx
    unfold NH at hx
    (conv=>whnf);repeat' (first  |((with_reducible first|apply kN|apply kW|apply kX|apply kG|apply kQ);(· exact sd);conv=>whnf)|(refine DW.mk ?_ ?_<;>intro hc<;>(try rw[List.length_nil]at hc)<;>first|(exfalso;omega)|(exact absurd rfl hc)|conv=>whnf)|(refine CB ?_ ?_<;>intro hc<;>conv=>whnf))
    all_goals first
      |(rw [if_pos (by assumption)]at hx;exact again.mk ⟨_,by omega,i+1,rfl,hx,rfl,rfl⟩)
      |(rw [if_neg (by assumption)]at hx;rw[← hx];rfl)
      | (trace_state; fail "orV")
  · rw[List.drop_eq_nil_of_le (by omega)]at hx
    (conv=>whnf);repeat' (first  |((with_reducible first|apply kN|apply kW|apply kX|apply kG|apply kQ);(· exact sd);conv=>whnf)|(refine DW.mk ?_ ?_<;>intro hc<;>(try rw[List.length_nil]at hc)<;>first|(exfalso;omega)|(exact absurd rfl hc)|conv=>whnf)|(refine CB ?_ ?_<;>intro hc<;>conv=>whnf))
    all_goals first | (rw [← hx]; rfl) | (trace_state; fail "orV2")
theorem bcaseD {p t e:Prop} [Decidable p] (h1:p→t) (h2:¬p→e):bcase (decide p) t e:=
  CB (fun h=>h1 (of_decide_eq_true h)) (fun h=>h2 (of_decide_eq_false h))
theorem bcaseN {p t e:Prop} [Decidable p] (h1:p→e) (h2:¬p→t):bcase (decide (¬ p)) t e:=
  CB (fun h=>h2 (of_decide_eq_true h)) (fun h=>h1 (Decidable.not_not.1 (of_decide_eq_false h)))
theorem PC.swo {α:Type} {c:α→α→Int} (h:PC c):SWO fun x y=>decide (c x y<0) where
  irrefl x:=decide_eq_false (by have:=h.anti x x;omega)
  trans x y z h1 h2:=decide_eq_true (by
    have a:=of_decide_eq_true h1
    have b:=of_decide_eq_true h2
    have h3:=h.trans x y z (by omega) (by omega)
    have h4:=h.trans z x y
    have h5:=h.anti x z
    have h6:=h.anti y z
    omega)
  ntrans x y z h1 h2:=decide_eq_false (by
    have a:=of_decide_eq_false h1
    have b:=of_decide_eq_false h2
    have h3:=h.trans z y x
    have h4:=h.anti x y
    have h5:=h.anti y z
    have h6:=h.anti x z
    omega)
theorem AK6 {α:Type} {lt:α→α→Bool} (hS:SWO lt) (htot:∀x y,lt x y=false→lt y x=false→x=y) {W:List α} {r:α} {i:Nat} (hW:W.Pairwise (fun x y=>lt x y=true)) (h1:∀x∈W.take i,lt x r=true) (h2:∀h:i<W.length,lt W[i] r=false):
    (W.take i++r::(W.drop i).filter (lt r)).Pairwise (fun x y=>lt x y=true)∧∀x,x∈W.take i++r::(W.drop i).filter (lt r)↔x∈W∨x=r:=by
  have h0:=List.take_append_drop i W
  rw[← h0]at hW
  rw[List.pairwise_append]at hW
  obtain⟨a,b,c⟩:=hW
  constructor
  · rw[List.pairwise_append]
    refine⟨a,?_,fun x hx y hy=>?_⟩
    · rw[List.pairwise_cons]
      exact⟨fun y hy=>by simpa using(List.mem_filter.1 hy).2,b.filter _⟩
    · rcases List.mem_cons.1 hy with rfl|hy
      · exact h1 x hx
      · exact c x hx y (List.mem_filter.1 hy).1
  · have hge:∀x∈W.drop i,lt x r=false:=by
      intro x hx
      have hi:i<W.length:=by
        rcases Nat.lt_or_ge i W.length with h|h
        · exact h
        · rw[List.drop_eq_nil_of_le h]at hx;simp at hx
      rw[List.drop_eq_getElem_cons hi]at hx b
      rcases List.mem_cons.1 hx with rfl|hx
      · exact h2 hi
      · cases hh:lt x r with
        |false=>rfl
        | true=>
          have h3:=(List.pairwise_cons.1 b).1 x hx
          have h4:=hS.trans _ _ _ h3 hh
          rw[h2 hi]at h4;cases h4
    intro x
    rw[List.mem_append,List.mem_cons,List.mem_filter]
    constructor
    · rintro(h|h|h)
      · exact .inl (List.mem_of_mem_take h)
      · exact .inr h
      · exact .inl (List.mem_of_mem_drop h.1)
    · rintro(h|h)
      · rw[← h0,List.mem_append]at h
        rcases h with h|h
        · exact .inl h
        · cases hh:lt r x with
          |true=>exact .inr (.inr ⟨h,rfl⟩)
          |false=>exact .inr (.inl (htot _ _ (hge x h) hh))
      · exact .inr (.inl h)
theorem LQ {α:Type} {p:α→Bool} {l:List α} {k:Nat} (h:k<l.length):(l.take (k+1)).filter p=(l.take k).filter p++if p l[k]=true then[l[k]]else[]:=by
  rw[List.take_succ_eq_append_getElem h,List.filter_append]
  congr 1
  simp only[List.filter_cons,List.filter_nil]
end
def isLetter (c:Int):Prop:=(97≤c∧c≤122)∨(65≤c∧c≤90)
instance (c:Int):Decidable (isLetter c):=by unfold isLetter;infer_instance
theorem letter1 {c:Int}:D8 (Dx tab) 135 [.int .u8 c] (· =.bool (decide (isLetter c))):=by
  refine Lu rfl rfl ?_
  (conv=>whnf);repeat' (first|((with_reducible first|apply kN|apply kW|apply kX|apply kG|apply kQ);(· exact sd);conv=>whnf)|(refine DW.mk ?_ ?_<;>intro hc<;>(try rw[List.length_nil]at hc)<;>first|(exfalso;omega)|(exact absurd rfl hc)|conv=>whnf)  |(refine CB ?_ ?_<;>intro hc<;>conv=>whnf))
  all_goals first|exact Lp (by unfold isLetter;omega)|exact Hf (by unfold isLetter;omega)
theorem letter2 {c:Int}:D8 (Dx tab) 122 [.int .u8 c] (· =.bool (decide (isLetter c))):=by
  refine Lu rfl rfl ?_
  (conv=>whnf);repeat' (first|((with_reducible first|apply kN|apply kW|apply kX|apply kG|apply kQ);(· exact sd);conv=>whnf)|(refine DW.mk ?_ ?_<;>intro hc<;>(try rw[List.length_nil]at hc)<;>first|(exfalso;omega)|(exact absurd rfl hc)|conv=>whnf)  |(refine CB ?_ ?_<;>intro hc<;>conv=>whnf))
  all_goals first|exact Lp (by unfold isLetter;omega)|exact Hf (by unfold isLetter;omega)
def inName (c:Int):Prop:=isLetter c∨(48≤c∧c≤57)∨c=95
instance (c:Int):Decidable (inName c):=by unfold inName;infer_instance
def isName (s:List UInt8):Prop:=0<s.length∧s.length≤20∧(∀ c,s[0]?=some c→isLetter c.toNat)∧∀c∈s,inName c.toNat
instance (s:List UInt8):Decidable (isName s):=by unfold isName;infer_instance
theorem isName_letter {s:List UInt8} (hs:0<s.length) (h:isName s):isLetter s[0].toNat:=h.2.2.1 _ (List.getElem?_eq_getElem hs)
theorem isName_at {s:List UInt8} {i:Nat} (hi:i<s.length) (h:isName s):inName s[i].toNat:=h.2.2.2 _ (List.getElem_mem _)
theorem one_in {s:List UInt8} (hs:0<s.length) (h:inName s[0].toNat):∀c∈s.take 1,inName c.toNat:=by
  cases s with
  |nil=>simp at hs
  |cons a l=>simpa using h
theorem name1 {s:List UInt8} (hl:s.length<2^63):D8 (Dx tab) 73 [.str s] (· =.bool (decide (isName s))):=by
  by_cases h0:s.length=0
  · obtain rfl:s=[]:=List.length_eq_zero_iff.1 h0
    refine Lu rfl rfl ?_
    (conv=>whnf);repeat' (first|((with_reducible first|apply kN|apply kW|apply kX|apply kG|apply kQ);(· exact sd);conv=>whnf)|(refine DW.mk ?_ ?_<;>intro hc<;>(try rw[List.length_nil]at hc)<;>first|(exfalso;omega)|(exact absurd rfl hc)|conv=>whnf)  |(refine CB ?_ ?_<;>intro hc<;>conv=>whnf))
    all_goals exact Hf (by simp[isName])
  have hs:0<s.length:=by omega
  have hne:s≠[]:=by rintro rfl;simp at h0
  have hz:s[0]?=some s[0]:=List.getElem?_eq_getElem hs
  refine Lu rfl rfl ?_
  (conv=>whnf);repeat' (first|((with_reducible first|apply kN|apply kW|apply kX|apply kG|apply kQ);(· exact sd);conv=>whnf)|(refine DW.mk ?_ ?_<;>intro hc<;>(try rw[List.length_nil]at hc)<;>first|(exfalso;omega)|(exact absurd rfl hc)|conv=>whnf)|(refine KH (letter1) (fun hc=>?_) (fun hc=>?_)<;>conv=>whnf)|(refine CB ?_ ?_<;>intro hc<;>conv=>whnf))
  all_goals first|exact absurd hc hne|exact Hf (by unfold isName;omega)|exact Hf fun h=>hc (isName_letter hs h)|skip
  refine DK (fun m env s'=>∃i:Nat,m=s.length-i∧env=[(0,.str s),(18,.int .i64 s.length),(19,.int .i64 i)]∧s'=⟨[],0⟩∧∀c∈s.take i,inName c.toNat) ?_ _ _ _ ⟨0,rfl,by simp,rfl,by simp⟩
  rintro _ _ _ ⟨i,rfl,rfl,rfl,hx⟩
  refine⟨rfl,?_⟩
  (conv=>whnf);repeat' (first|((with_reducible first|apply kN|apply kW|apply kX|apply kG|apply kQ);(· exact sd);conv=>whnf)|(refine DW.mk ?_ ?_<;>intro hc<;>(try rw[List.length_nil]at hc)<;>first|(exfalso;omega)|(exact absurd rfl hc)|conv=>whnf)|(refine KH (letter1) (fun hc=>?_) (fun hc=>?_)<;>conv=>whnf)|(refine CB ?_ ?_<;>intro hc<;>conv=>whnf))
  all_goals first
    |exact again.mk ⟨_,by omega,i+1,rfl,rfl,rfl,AfD (by omega) hx (by unfold inName isLetter at *;omega)⟩
    |(refine Hf fun h=>?_;have:=isName_at (i:=i) (by omega) h;unfold inName isLetter at *;omega)
    |(rename_i hc1;exact Lp ⟨hs,by omega,fun c h=>by rw[hz]at h;cases h;assumption,by rw[TP hc]at hx;exact hx⟩)
theorem name2 {s:List UInt8} (hl:s.length<2^63):D8 (Dx tab) 69 [.str s] (· =.bool (decide (isName s))):=by
  by_cases h0:s.length=0
  · obtain rfl:s=[]:=List.length_eq_zero_iff.1 h0
    refine Lu rfl rfl ?_
    (conv=>whnf);repeat' (first|((with_reducible first|apply kN|apply kW|apply kX|apply kG|apply kQ);(· exact sd);conv=>whnf)|(refine DW.mk ?_ ?_<;>intro hc<;>(try rw[List.length_nil]at hc)<;>first|(exfalso;omega)|(exact absurd rfl hc)|conv=>whnf)  |(refine CB ?_ ?_<;>intro hc<;>conv=>whnf))
    all_goals exact Hf (by simp[isName])
  have hs:0<s.length:=by omega
  have hne:s≠[]:=by rintro rfl;simp at h0
  have hz:s[0]?=some s[0]:=List.getElem?_eq_getElem hs
  refine Lu rfl rfl ?_
  (conv=>whnf);repeat' (first|((with_reducible first|apply kN|apply kW|apply kX|apply kG|apply kQ);(· exact sd);conv=>whnf)|(refine DW.mk ?_ ?_<;>intro hc<;>(try rw[List.length_nil]at hc)<;>first|(exfalso;omega)|(exact absurd rfl hc)|conv=>whnf)|(refine KH (letter2) (fun hc=>?_) (fun hc=>?_)<;>conv=>whnf)|(refine CB ?_ ?_<;>intro hc<;>conv=>whnf))
  all_goals first|exact absurd hc hne|exact Hf (by unfold isName;omega)|exact Hf fun h=>hc (isName_letter hs h)|skip
  refine DK (fun m env s'=>∃i:Nat,m=s.length-i∧env=[(0,.str s),(3,.int .i64 i)]∧s'=⟨[],0⟩∧∀c∈s.take i,inName c.toNat) ?_ _ _ _ ⟨1,rfl,rfl,rfl,one_in hs (Or.inl hc)⟩
  rintro _ _ _ ⟨i,rfl,rfl,rfl,hx⟩
  refine⟨rfl,?_⟩
  (conv=>whnf);repeat' (first|((with_reducible first|apply kN|apply kW|apply kX|apply kG|apply kQ);(· exact sd);conv=>whnf)|(refine DW.mk ?_ ?_<;>intro hc<;>(try rw[List.length_nil]at hc)<;>first|(exfalso;omega)|(exact absurd rfl hc)|conv=>whnf)|(refine KH (letter2) (fun hc=>?_) (fun hc=>?_)<;>conv=>whnf)|(refine CB ?_ ?_<;>intro hc<;>conv=>whnf))
  all_goals first
    |exact again.mk ⟨_,by omega,i+1,rfl,rfl,rfl,AfD (by omega) hx (by unfold inName isLetter at *;omega)⟩
    |(refine Hf fun h=>?_;have:=isName_at (i:=i) (by omega) h;unfold inName isLetter at *;omega)
    |(rename_i hc1;exact Lp ⟨hs,by omega,fun c h=>by rw[hz]at h;cases h;assumption,by rw[TP hc]at hx;exact hx⟩)
theorem Ay4 {AP:Nat→Option AFn} {f:Nat} {sp:List AV→Sto→Option (AX5×Sto)} {args:List AV} {R:AV→Prop} {v v':AV} {s:Sto} (hf:AP f=some (.ext sp)) (h:sp args ⟨[],0⟩=some (.ok v,s)) (hs:snap s.σ snapDepth v=some v') (hR:R v'):D8 AP f args R:=
  ⟨v',⟨1,by simp only[Awz,run,hf,h];exact hs⟩,hR⟩
theorem ixP {l:List UInt8}:D8 (Dx tab) 286 [.str l,.fn 287 []] (· =.int .i64 (Ap3 l)):=
  Ay4 rfl rfl rfl rfl
theorem AuI {l:List UInt8}:Ap3 l<0↔∀c∈l,AwT c=false:=by
  unfold Ap3
  cases h:List.findIdx? AwT l with
  | none=>
    refine⟨fun _ c hc=>?_,fun _=>by decide⟩
    have:=List.findIdx?_eq_none_iff.1 h c hc
    simpa using this
  | some i=>
    refine⟨fun h=>?_,fun ha=>?_⟩
    · simp at h;omega
    · obtain⟨h1,h2,_⟩:=List.findIdx?_eq_some_iff_getElem.1 h
      rw[ha _ (List.getElem_mem h1)]at h2
      cases h2
def inR (n:Int):Prop:=-1000000000000000≤n∧n≤1000000000000000
instance (n:Int):Decidable (inR n):=by unfold inR;infer_instance
theorem inP {n:Int}:D8 (Dx tab) 285 [.int .i64 n] (· =.bool (decide (inR n))):=by
  refine Lu rfl rfl ?_
  (conv=>whnf);repeat' (first|((with_reducible first|apply kN|apply kW|apply kX|apply kG|apply kQ);(· exact sd);conv=>whnf)|(refine DW.mk ?_ ?_<;>intro hc<;>(try rw[List.length_nil]at hc)<;>first|(exfalso;omega)|(exact absurd rfl hc)|conv=>whnf)  |(refine CB ?_ ?_<;>intro hc<;>conv=>whnf))
  all_goals first|exact Lp (by unfold inR;omega)|exact Hf (by unfold inR;omega)
theorem AXV {n:Int}:D8 (Dx tab) 264 [.int .i64 n] (· =.bool (decide (inR n))):=by
  refine Lu rfl rfl ?_
  (conv=>whnf);repeat' (first|((with_reducible first|apply kN|apply kW|apply kX|apply kG|apply kQ);(· exact sd);conv=>whnf)|(refine DW.mk ?_ ?_<;>intro hc<;>(try rw[List.length_nil]at hc)<;>first|(exfalso;omega)|(exact absurd rfl hc)|conv=>whnf)  |(refine CB ?_ ?_<;>intro hc<;>conv=>whnf))
  all_goals first|exact Lp (by unfold inR;omega)|exact Hf (by unfold inR;omega)
def okS (s:List UInt8):Prop:=s.length≤100∧∀c∈s,AwT c=false
instance (s:List UInt8):Decidable (okS s):=by unfold okS;infer_instance
def AjD (v:GV):Prop:=v.d=0∧v.l.length=0∧(v.k=1∧v.s=[]∧(v.n=0∨v.n=1)∨v.k=2∧v.s=[]∧inR v.n∨v.k=4∧v.n=0∧okS v.s)
instance (v:GV):Decidable (AjD v):=by unfold AjD;infer_instance
def AWR (v:GV):Prop:=v.k=1∨v.k=2∨v.k=4
instance (v:GV):Decidable (AWR v):=by unfold AWR;infer_instance
theorem AO9 {v:GV} (h:AjD v):AWR v:=by unfold AjD at h;unfold AWR;omega
theorem leaf_1 {v:GV} (h:v.k=1) (h1:v.d=0) (h2:v.l.length=0) (h3:v.s=[]) (h4:v.n=0∨v.n=1):AjD v:=⟨h1,h2,.inl ⟨h,h3,h4⟩⟩
theorem leaf_2 {v:GV} (h:v.k=2) (h1:v.d=0) (h2:v.l.length=0) (h3:v.s=[]) (h4:inR v.n):AjD v:=⟨h1,h2,.inr (.inl ⟨h,h3,h4⟩)⟩
theorem leaf_4 {v:GV} (h:v.k=4) (h1:v.d=0) (h2:v.l.length=0) (h3:v.n=0) (h4:okS v.s):AjD v:=⟨h1,h2,.inr (.inr ⟨h,h3,h4⟩)⟩
theorem leaf_s {v:GV} (h:AjD v) (hk:v.k≠4):v.s=[]:=by
  obtain⟨_,_,h⟩:=h
  rcases h with h|h|h
  · exact h.2.1
  · exact h.2.1
  · exact absurd h.1 hk
theorem leaf_n {v:GV} (h:AjD v) (hk:v.k=1):v.n=0∨v.n=1:=by
  obtain⟨_,_,h⟩:=h;omega
theorem leaf_r {v:GV} (h:AjD v) (hk:v.k=2):inR v.n:=by
  obtain⟨_,_,h⟩:=h
  rcases h with h|h|h<;>first|exact h.2.2|omega
theorem leaf_z {v:GV} (h:AjD v) (hk:v.k=4):v.n=0∧okS v.s:=by
  obtain⟨_,_,h⟩:=h
  rcases h with h|h|h<;>first|exact h.2|omega
theorem vld {v:GV} (hv:v.ok) (hk:AWR v) {n:Int}:D8 (Dx tab) 249 [v.av,.int .i64 n] (· =.bool (decide (AjD v))):=by
  obtain⟨g1,g2,g3,g4,g5,g6,g7⟩:=hv
  unfold Ln at g4 g5
  unfold AWR at hk
  refine Lu rfl rfl ?_
  (conv=>whnf);repeat' (first|((with_reducible first|apply kN|apply kW|apply kX|apply kG|apply kQ);(· exact sd);conv=>whnf)|(refine DW.mk ?_ ?_<;>intro hc<;>(try rw[List.length_nil]at hc)<;>first|(exfalso;omega)|(exact absurd rfl hc)|conv=>whnf)|(refine KH (inP (n:=v.n)) (fun hr=>?_) (fun hr=>?_)<;>conv=>whnf)|(refine BM (ixP (l:=v.s)) ?_;rintro _ rfl;conv=>whnf)|(refine CB ?_ ?_<;>intro hc<;>conv=>whnf))
  all_goals first
    |exact Hf (fun h=>by have:=h.2.1;omega)
    |(refine Lp ?_;clear g7 g6;unfold AjD okS;rw[← AuI];first|(simp_all;done)|(simp_all;omega))
    |(refine Hf ?_;clear g7 g6;unfold AjD okS;rw[← AuI];first|(simp_all;done)|(simp_all;omega))
theorem vldV {v:GV} (hv:v.ok) (hk:AWR v):D8 (Dx tab) 192 [v.av] (· =.bool (decide (AjD v))):=by
  refine Lu rfl rfl ?_
  (conv=>whnf);repeat' (first|((with_reducible first|apply kN|apply kW|apply kX|apply kG|apply kQ);(· exact sd);conv=>whnf)|(refine DW.mk ?_ ?_<;>intro hc<;>(try rw[List.length_nil]at hc)<;>first|(exfalso;omega)|(exact absurd rfl hc)|conv=>whnf)|(refine KH (vld (v:=v) hv hk) (fun hr=>?_) (fun hr=>?_)<;>conv=>whnf)|(refine CB ?_ ?_<;>intro hc<;>conv=>whnf))
  all_goals first|exact Lp (by assumption)|exact Hf (by assumption)
theorem plain1 {v:GV} (hv:v.ok):D8 (Dx tab) 132 [v.av] (· =.bool (decide (AjD v))):=by
  refine Lu rfl rfl ?_
  (conv=>whnf);repeat' (first|((with_reducible first|apply kN|apply kW|apply kX|apply kG|apply kQ);(· exact sd);conv=>whnf)|(refine DW.mk ?_ ?_<;>intro hc<;>(try rw[List.length_nil]at hc)<;>first|(exfalso;omega)|(exact absurd rfl hc)|conv=>whnf)|(refine KH (vldV (v:=v) hv (by unfold AWR;omega)) (fun hr=>?_) (fun hr=>?_)<;>conv=>whnf)|(refine CB ?_ ?_<;>intro hc<;>conv=>whnf))
  all_goals first|exact Lp (by assumption)|exact Hf (by assumption)|exact Hf fun h=>absurd (AO9 h) (by unfold AWR;omega)
theorem AB9 {a b c d:Nat} (hb:0<b) (hd:0<d) (h1:Nat.gcd a b=1) (h2:Nat.gcd c d=1) (h:a*d=c*b):a=c∧b=d:=by
  have e1:b ∣ d:=(Nat.Coprime.dvd_of_dvd_mul_left (k:=b) (m:=a) (n:=d) (by rw[Nat.Coprime,Nat.gcd_comm];exact h1) ⟨c,by rw[h,Nat.mul_comm]⟩)
  have e2:d ∣ b:=(Nat.Coprime.dvd_of_dvd_mul_left (k:=d) (m:=c) (n:=b) (by rw[Nat.Coprime,Nat.gcd_comm];exact h2) ⟨a,by rw[← h,Nat.mul_comm]⟩)
  have e3:=Nat.dvd_antisymm e1 e2
  subst e3
  exact⟨Nat.eq_of_mul_eq_mul_right hb h,rfl⟩
def VF (n d:Int):Prop:=1≤d∧d≤1000000000000000∧inR n∧Nat.gcd n.natAbs d.natAbs=1
instance (n d:Int):Decidable (VF n d):=by unfold VF;infer_instance
def VB (g:GV):Prop:=g.l.length=0∧(g.k=0∧g.n=0∧g.d=0∧g.s=[]∨g.k=1∧(g.n=0∨g.n=1)∧g.d=0∧g.s=[]∨g.k=2∧inR g.n∧g.d=0∧g.s=[]∨
  g.k=3∧2≤g.d∧VF g.n g.d∧g.s=[]∨g.k=4∧g.n=0∧g.d=0∧okS g.s∨(g.k=5∨g.k=6)∧1≤g.n∧g.n≤1000000∧g.d=0∧g.s=[])
instance (g:GV):Decidable (VB g):=by unfold VB;infer_instance
def VPa (l:List AV):Prop:=l.length % 2=1∧l.length≤25∧∀i (h:i<l.length),∃x:GV,l[i]=x.av∧x.k=5+i % 2∧VB x
def VV:Nat→GV→Prop
  |0,g=>VB g∨g.k=7∧g.n=0∧g.d=0∧g.s=[]∧VPa g.l
  |m+1,g=>VB g∨g.k=7∧g.n=0∧g.d=0∧g.s=[]∧VPa g.l∨g.k=8∧g.n=0∧g.d=0∧g.s=[]∧g.l.length≤64∧∀i (h:i<g.l.length),∃x:GV,g.l[i]=x.av∧VV m x
theorem ACa:∀{m:Nat} {g:GV},VV m g→VV (m+1) g
  | 0,g,h=>by
    rcases h with h|h
    · exact .inl h
    · exact .inr (.inl h)
  | m+1,g,h=>by
    rcases h with h|h|⟨h1,h2,h3,h4,h5,h6⟩
    · exact .inl h
    · exact .inr (.inl h)
    · exact .inr (.inr ⟨h1,h2,h3,h4,h5,fun i hi=>by obtain⟨x,e,hx⟩:=h6 i hi;exact⟨x,e,ACa hx⟩⟩)
theorem GV.AmG {g h:GV} (e:g.av=h.av):g=h:=by
  obtain⟨k,n,d,s,nn,l⟩:=g
  obtain⟨k',n',d',s',nn',l'⟩:=h
  simp only[GV.av,AV.agg.injEq,List.cons.injEq,AV.int.injEq,AV.str.injEq,AV.sl.injEq,true_and,and_true]at e
  obtain⟨rfl,rfl,rfl,rfl,rfl,rfl⟩:=e
  rfl
def Alk:Nat→GV→GV→Prop
  |0,_,_=>False
  |d+1,g,h=>g.k=h.k∧g.n=h.n∧g.d=h.d∧g.s=h.s∧g.l.length=h.l.length∧∀(i:Nat) (x y:GV),g.l[i]?=some x.av→h.l[i]?=some y.av→Alk d x y
end AI
end Go.Proofs.YtnbibfalljlmfaaGreatDoor
