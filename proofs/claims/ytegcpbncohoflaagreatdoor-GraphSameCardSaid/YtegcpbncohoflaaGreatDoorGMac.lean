/- Comparing two numbers. Sorting in place: lists of a store against arrays of the library's plain sort. math/bits.Len and the next power of two. Orders: lexicographic, of numbers, of strings; the first that is not 0. -/
import Derived.Test.YtegcpbncohoflaaGreatDoorGGrCode
import Derived.Test.YtegcpbncohoflaaGreatDoorGMab
import Derived.Sort.AssemblyPlain
set_option linter.unusedVariables false
namespace Go.Proofs.YtegcpbncohoflaaGreatDoor
namespace AI
theorem nan {x:Int}:Af (Ae tab) 41 [.int .i64 x] (· =.bool (decide False)):=by
 refine Ac rfl rfl ?_
 (conv=>whnf);repeat' (first  |(refine kA ?_;conv=>whnf)|(refine Br.mk (fun hc=>?_) fun hc=>?_<;>first|exact hc.elim|conv=>whnf)|(refine kB ?_))
 all_goals first|exact absurd rfl hc|rfl
def CV (x y:Int):Int:=if x<y then -1 else if y<x then 1 else 0
theorem compare {x y:Int}:Af (Ae tab) 29 [.int .i64 x,.int .i64 y] (· =.int .i64 (CV x y)):=by
 refine Ac rfl rfl ?_
 (conv=>whnf);repeat' (first|(refine BK nan (fun hc=>absurd hc id) (fun _=>?_);conv=>whnf)|(refine kA ?_;conv=>whnf)|(refine Br.mk (fun hc=>?_) fun hc=>?_<;>first|exact hc.elim|conv=>whnf)|(refine kB ?_))
 all_goals unfold CV;first|(rw [if_pos (by omega)];rfl)|(rw [if_neg (by omega),if_pos (by omega)];rfl)|(rw [if_neg (by omega),if_neg (by omega)];rfl)
theorem Dz {x y:Int}:CV x y=0↔x=y:=by unfold CV;split<;>(try split)<;>omega
section
open Go.Sort
section
variable {α:Type} [Inhabited α] {f:α→AV}
@[simp] theorem NP (d:Array α) (i j:Nat):(swp d i j).size=d.size:=by simp[swp]
variable {lt:α→α→Bool} {a b i j hi first root:Nat} {d:Array α}
@[simp] theorem RY:∀{j:Nat} {d:Array α},(insInner lt a j d).size=d.size
 |0,d=>rfl
 |j+1,d=>by
  rw[insInner]
  split
  ·rw[RY,NP]
  ·rfl
theorem XO (h:hi≤2*root+1):siftDown lt hi first root d=d:=by
 rw[siftDown,dif_pos h]
theorem RZ {lt:α→α→Bool} {hi first:Nat}:∀(n root:Nat) (d:Array α),hi-root≤n→(siftDown lt hi first root d).size=d.size:=by
 intro n
 induction n with
 |zero=>intro root d h;rw[XO (by omega)]
 |succ n ih=>
  intro root d h
  rw[siftDown]
  split
  ·rfl
  ·split
   ·split
    ·rfl
    ·split
     ·rw[ih _ _ (by omega),NP]
     ·rfl
   ·split
    ·rfl
    ·rw[ih _ _ (by omega),NP]
@[simp] theorem YW:(siftDown lt hi first root d).size=d.size:=RZ (hi-root) root d (Nat.le_refl _)
@[simp] theorem QI:∀{k:Nat} {d:Array α},(heapBuild lt hi first k d).size=d.size
 |0,d=>rfl
 |k+1,d=>by rw[heapBuild,QI,YW]
end
end
section
open Go.Sort
section
variable {α:Type} [Inhabited α] {lt:α→α→Bool} {a b i j:Nat} {d:Array α}
@[simp] theorem Aan:∀{j:Nat} {d:Array α},(shiftDown lt j d).size=d.size
 |0,d=>rfl
 |j+1,d=>by
  rw[shiftDown]
  split
  ·rfl
  ·rw[Aan,NP]
theorem UO:∀(n j:Nat) (d:Array α),b-j≤n→(shiftUp lt b j d).size=d.size
 |0,j,d,h=>by rw[shiftUp,if_neg (by omega)]
 |n+1,j,d,h=>by
  rw[shiftUp]
  split
  ·split
   ·rfl
   ·rw[UO n _ _ (by omega),NP]
  ·rfl
@[simp] theorem Adv:(shiftUp lt b j d).size=d.size:=UO (b-j) j d (Nat.le_refl _)
@[simp] theorem AcK:(fixDown lt a i d).size=d.size:=by unfold fixDown;split<;>simp
@[simp] theorem AcL:(fixUp lt b i d).size=d.size:=by unfold fixUp;split<;>simp
variable {p:α→Bool}
end
end
section
open Go.Sort
def CP (a b:Int):Int:=if a=0 then b else a
def cS (x y:List UInt8):Int:=if Op.bytesLess x y=true then -1 else if Op.bytesLess y x=true then 1 else 0
structure PC {α:Type} (c:α→α→Int):Prop where
 anti:∀x y,c y x=-c x y
 trans:∀x y z,c x y≤0→c y z≤0→c x z≤0
theorem PC.on {α β:Type} {c:β→β→Int} (h:PC c) (p:α→β):PC fun x y=>c (p x) (p y):=⟨fun x y=>h.anti _ _,fun x y z=>h.trans _ _ _⟩
theorem UH:∀(x y:List UInt8),Op.bytesLess x y=decide (x<y)
 |[],[]=>by simp[Op.bytesLess]
 |_::_,[]=>by simp[Op.bytesLess]
 |[],_::_=>by simp[Op.bytesLess]
 |a::x,b::y=>by
  rw[Op.bytesLess,UH x y]
  simp only[List.cons_lt_cons_iff]
  by_cases h1:a<b<;>by_cases h2:a=b<;>by_cases h3:x<y<;>simp[h1,h2,h3]
theorem Rf (x y:List UInt8):Op.bytesLess x y=ltStr x y:=UH x y
theorem WL {x y:List UInt8} (h1:Op.bytesLess x y=false) (h2:Op.bytesLess y x=false):x=y:=by
 rw[Rf]at h1 h2
 simp only[ltStr,decide_eq_false_iff_not]at h1 h2
 exact List.le_antisymm (List.not_lt.1 h2) (List.not_lt.1 h1)
theorem Aal:PC cS where
 anti x y:=by
  have h:Op.bytesLess x y=true→Op.bytesLess y x=true→False:=fun a b=>by
   rw[Rf]at a b
   have:=swo_ltStr.trans x y x a b
   rw[swo_ltStr.irrefl]at this;cases this
  unfold cS
  by_cases a:Op.bytesLess x y=true<;>by_cases b:Op.bytesLess y x=true<;>simp[a,b]
  exact h a b
 trans x y z h1 h2:=by
  have n1:Op.bytesLess y x=false:=by
   unfold cS at h1
   split at h1
   ·rename_i a
    cases hb:Op.bytesLess y x with
    |false=>rfl
    |true=>
     rw[Rf]at a hb
     have:=swo_ltStr.trans x y x a hb
     rw[swo_ltStr.irrefl]at this;cases this
   ·split at h1
    ·omega
    ·rename_i b;simpa using b
  have n2:Op.bytesLess z y=false:=by
   unfold cS at h2
   split at h2
   ·rename_i a
    cases hb:Op.bytesLess z y with
    |false=>rfl
    |true=>
     rw[Rf]at a hb
     have:=swo_ltStr.trans y z y a hb
     rw[swo_ltStr.irrefl]at this;cases this
   ·split at h2
    ·omega
    ·rename_i b;simpa using b
  have n3:Op.bytesLess z x=false:=by rw[Rf]at *;exact swo_ltStr.ntrans z y x n2 n1
  unfold cS
  split
  ·omega
  ·rw[n3];simp
theorem Nr {x y:List UInt8}:cS x y=0↔x=y:=by
 constructor
 ·intro h
  unfold cS at h
  split at h
  ·omega
  ·split at h
   ·omega
   ·rename_i a b;exact WL (by simpa using a) (by simpa using b)
 ·rintro rfl
  have:=Aal.anti x x
  omega
theorem Ep {a b:Int}:CP a b=0↔a=0∧b=0:=by unfold CP;split<;>omega
theorem AbO {x:List UInt8}:Af (Ae tab) 61 [.str x] (· =.bool false):=by
 refine Ac rfl rfl ?_
 (conv=>whnf);repeat' (first  |(refine kA ?_;conv=>whnf)|(refine Br.mk (fun hc=>?_) fun hc=>?_<;>first|exact hc.elim|conv=>whnf)|(refine kB ?_))
 all_goals first|rfl|(exfalso;simp_all)
theorem Zx {x y:List UInt8} (h:Op.bytesLess x y=true):AV.int .i64 (-1)=.int .i64 (cS x y):=by unfold cS;rw[if_pos h]
theorem Zy {x y:List UInt8} (h:Op.bytesLess x y=false) (h2:(Op.bytesLess x y||x==y)=true):AV.int .i64 0=.int .i64 (cS x y):=by
 rw[h,Bool.false_or,beq_iff_eq]at h2
 rw[Nr.2 h2]
theorem Zz {x y:List UInt8} (h2:(Op.bytesLess x y||x==y)=false):AV.int .i64 1=.int .i64 (cS x y):=by
 rw[Bool.or_eq_false_iff,beq_eq_false_iff_ne]at h2
 have h3:Op.bytesLess y x=true:=by
  cases h:Op.bytesLess y x with
  |true=>rfl
  |false=>exact absurd (WL h2.1 h) h2.2
 unfold cS;rw[h2.1,h3];rfl
theorem Rh {x y:List UInt8}:Af (Ae tab) 50 [.str x,.str y] (· =.int .i64 (cS x y)):=by
 refine Ac rfl rfl ?_
 (conv=>whnf);repeat' (first|(refine Aa AbO ?_;rintro _ rfl;conv=>whnf)|(refine kA ?_;conv=>whnf)|(refine Br.mk (fun hc=>?_) fun hc=>?_<;>first|exact hc.elim|conv=>whnf)|(refine kB ?_))
 all_goals first|exact Zx hc|exact Zy (by assumption) hc|exact Zz hc
def Yp:List Int→Int
 |[]=>0
 |a::l=>CP a (Yp l)
theorem WM {l:List Int} {i:Nat} (h:i<l.length):Yp (l.drop i)=CP l[i] (Yp (l.drop (i+1))):=by
 rw[List.drop_eq_getElem_cons h];rfl
theorem orV {l:List Int} {nn:Bool} (hl:l.length<2^62):Af (Ae tab) 28 [.sl nn (vs (.int .i64) l)] (· =.int .i64 (Yp l)):=by
 refine Ac rfl rfl ?_
 (conv=>whnf);repeat' (first  |(refine kA ?_;conv=>whnf)|(refine Br.mk (fun hc=>?_) fun hc=>?_<;>first|exact hc.elim|conv=>whnf)|(refine kB ?_))
 refine Aq (fun m env s=>∃i:Nat,m=l.length-i∧Yp (l.drop i)=Yp l∧env=[(3,.int .i64 0),(6,.sl nn (vs (.int .i64) l)),(7,.int .i64 l.length),(8,.int .i64 i)]∧s=⟨[],0⟩) ?_ _ _ _ ⟨0,rfl,by simp,by first|rfl|(rw [← lV (f:=.int .i64) l];rfl),rfl⟩
 rintro _ _ _ ⟨i,rfl,hx,rfl,rfl⟩
 refine⟨rfl,?_⟩
 by_cases hlt:i<l.length
 ·rw[WM hlt]at hx
  unfold CP at hx
  (conv=>whnf);repeat' (first  |(refine kA ?_;conv=>whnf)|(refine Br.mk (fun hc=>?_) fun hc=>?_<;>first|exact hc.elim|conv=>whnf)|(refine kB ?_))
  all_goals first
   |(rw [if_pos (by assumption)]at hx;exact again.mk ⟨_,by omega,i+1,rfl,hx,rfl,rfl⟩)
   |(rw [if_neg (by assumption)]at hx;rw[← hx];rfl)
 ·rw[List.drop_eq_nil_of_le (by omega)]at hx
  (conv=>whnf);repeat' (first  |(refine kA ?_;conv=>whnf)|(refine Br.mk (fun hc=>?_) fun hc=>?_<;>first|exact hc.elim|conv=>whnf)|(refine kB ?_))
  all_goals first|(rw [← hx];rfl)
end
end AI
end Go.Proofs.YtegcpbncohoflaaGreatDoor
