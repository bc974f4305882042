/- strings.IndexFunc over the predicate of value.valid, as an entry of the table. math/bits.Add64 and Sub64, which the model answers itself, as entries of the table. -/
import Derived.Test.YtiimoiecghmebaaDoorFSe
import Derived.Test.YtiimoiecghmebaaDoorFIxWalk
import Derived.Tactics
import Derived.Tactics2
import Derived.StillTactics
import Derived.Scope
import Derived.FnLit
import Derived.Handy
import Derived.Test.YtiimoiecghmebaaDoorChecked
import Derived.Laws.Externs
set_option linter.unusedVariables false
namespace Go.Proofs.YtiimoiecghmebaaDoor
namespace AI
section
open Go.RowKit
set_option maxRecDepth 1000000 in
theorem AiH (s:ByteArray) (w:World):
 Calls Tryd.prog 83 #[.string s,.func (.func 84) #[] #[]] w fun e w'=>e=.returned (.int .i64 (Em s 0))∧∃pos,w'=w.iter s pos:=by
 go_enter Tryd.func83,Tryd.ntmps83
 go_wp2_with fail
 go_call (Aip s w) as e w' ⟨he,hb⟩
 subst he
 obtain⟨p,rfl⟩:=hb
 simp only[]
 go_wp2_with fail
 go_ret
 exact⟨rfl,_,rfl⟩
def Vp:List AV→Ag→Option (AL×Ag)
 |[.str l,.fn k []],s=>bif Nat.beq k 84 then some (.ok (.int .i64 (Jq l)),s)else none
 |_,_=>none
theorem AhO:Ar Tryd.prog fun f' args s=>if f'=83 then Vp args s else none:=by
 intro f args s out s' h
 replace h:(if f=83 then Vp args s else none)=some (out,s'):=h
 rcases Decidable.em (f=83)with hf|hf
 case inr=>rw[if_neg hf]at h;cases h
 rw[if_pos hf]at h
 subst hf
 unfold Vp at h
 split at h
 case h_2=>cases h
 rename_i l k
 cases hk:Nat.beq k 84 with
 |false=>rw[hk]at h;cases h
 |true=>
  rw[hk]at h
  have hk':=Nat.eq_of_beq_eq_true hk
  subst hk'
  cases h
  refine fun w0 B Z φ w vs hI hargs=>.inl ⟨⟨_,Tryd.func83,rfl,by decide⟩,?_⟩
  obtain⟨hl,ha⟩:=hargs
  obtain⟨v0,h0,r0⟩:=ha 0 _ rfl
  obtain⟨v1,h1,r1⟩:=ha 1 _ rfl
  cases r0 with
  |str sb _ hs=>
  cases r1 with
  |fn _ _ cvs hcl hcr=>
  have hc0:cvs=#[]:=Array.eq_empty_of_size_eq_zero hcl.symm
  subst hc0
  have hvs:vs=#[.string sb,.func (.func 84) #[] #[]]:=by
   apply Array.ext'
   refine List.ext_getElem? fun i=>?_
   match i with
   |0=>simpa using h0
   |1=>simpa using h1
   |i+2=>
    have:vs.toList.length=2:=by simpa using hl.symm
    rw[List.getElem?_eq_none (by omega)]
    rfl
  subst hvs
  refine(AiH sb w).mono ?_
  rintro e w' ⟨rfl,p,rfl⟩
  obtain⟨q1,q2⟩:=hI.grow (w':=w.iter sb p) (Below.alloc (Below.refl _ _) (Nat.le_refl _) _) (fun _ _ h=>h) (fun _ _ h=>.inl h) (fun b i h=>Nat.lt_of_lt_of_le (hI.live b i h) (by simp[World.iter]))
  refine⟨Z,φ,q1,q2,_,rfl,?_⟩
  have:Em sb 0=Jq l:=by
   unfold Em Jq
   rw[List.drop_zero,hs]
   cases List.findIdx? Sz l with
   |none=>rfl
   |some i=>simp
  rw[this]
  exact .int _ _
end
section
open Go.RowKit
def m64:Int:=18446744073709551616
def addSpec:List AV→Ag→Option (AL×Ag)
 |[.int .u64 x,.int .u64 y,.int .u64 c],s=>if 0≤x∧0≤y∧0≤c∧c≤1 then some (.ok (.Dy [.int .u64 ((x+y+c) % m64),.int .u64 ((x+y+c) / m64)]),s)else none
 |_,_=>none
def NW:List AV→Ag→Option (AL×Ag)
 |[.int .u64 x,.int .u64 y,.int .u64 c],s=>if 0≤x∧0≤y∧0≤c∧c≤1∧y+c≤x+m64 then some (.ok (.Dy [.int .u64 ((x+m64-y-c) % m64),.int .u64 (if x<y+c then 1 else 0)]),s)else none
 |_,_=>none
def Ac1:Array Value→Sem Value:=fun args=>do
 let (x, y, c) ← Extern.MathBitsCarry.three "Add64" args
 pure (Extern.MathBitsCarry.pair ((x+y+c) % Extern.MathBitsCarry.m64) ((x+y+c) / Extern.MathBitsCarry.m64))
def Ac2:Array Value→Sem Value:=fun args=>do
 let (x, y, b) ← Extern.MathBitsCarry.three "Sub64" args
 pure (Extern.MathBitsCarry.pair ((x+Extern.MathBitsCarry.m64-y-b) % Extern.MathBitsCarry.m64) (if x<y+b then 1 else 0))
theorem Ac3 (x y c:Nat) (hc:c≤1) (w:World):(Ac1 #[.int .u64 x,.int .u64 y,.int .u64 c]).run Tryd.prog w=.ok (.tuple #[.int .u64 (((x+y+c) % 18446744073709551616:Nat):Int),.int .u64 (((x+y+c) / 18446744073709551616:Nat):Int)]) w:=by
 have:c=0∨c=1:=by omega
 rcases this with rfl|rfl<;>rfl
theorem Ac4 (x y b:Nat) (hb:b≤1) (w:World):(Ac2 #[.int .u64 x,.int .u64 y,.int .u64 b]).run Tryd.prog w=.ok (.tuple #[.int .u64 (((x+18446744073709551616-y-b) % 18446744073709551616:Nat):Int),.int .u64 ((if x<y+b then 1 else 0:Nat):Int)]) w:=by
 have:b=0∨b=1:=by omega
 rcases this with rfl|rfl<;>rfl
theorem AfB {w:World} {Z:Bh} {φ:D8} {ctr:Nat} {k1 k2 k3:IntKind} {a b c:Int} {vs:Array Value} (h:Dx w Z φ ctr [.int k1 a,.int k2 b,.int k3 c] vs):vs=#[.int k1 a,.int k2 b,.int k3 c]:=by
 obtain⟨hl,ha⟩:=h
 obtain⟨v0,h0,r0⟩:=ha 0 _ rfl
 obtain⟨v1,h1,r1⟩:=ha 1 _ rfl
 obtain⟨v2,h2,r2⟩:=ha 2 _ rfl
 cases r0;cases r1;cases r2
 apply Array.ext_getElem?
 intro i
 match i with
 |0=>exact h0
 |1=>exact h1
 |2=>exact h2
 |i+3=>rw[Array.getElem?_eq_none (by rw[← hl];simp),Array.getElem?_eq_none (by simp)]
theorem AiL {w:World} {Z:Bh} {φ:D8} {ctr:Nat} {k1 k2:IntKind} {a b:Int}:Rep w Z φ ctr (.Dy [.int k1 a,.int k2 b]) (.tuple #[.int k1 a,.int k2 b]):=
 .Dy _ _ rfl fun i c hi=>by
  match i,hi with
  |0,hi=>cases hi;exact .int _ _
  |1,hi=>cases hi;exact .int _ _
  |i+2,hi=>simp at hi
theorem Af1:Ar Tryd.prog fun f' args s=>if f'=58 then addSpec args s else none:=by
 intro f args s out s' h
 replace h:(if f=58 then addSpec args s else none)=some (out,s'):=h
 rcases Decidable.em (f=58)with hf|hf
 case inr=>rw[if_neg hf]at h;cases h
 rw[if_pos hf]at h
 subst hf
 unfold addSpec at h
 split at h
 case h_2=>cases h
 rename_i x y c
 split at h
 case isFalse=>cases h
 rename_i hc
 simp only[Option.some.injEq,Prod.mk.injEq]at h
 obtain⟨rfl,rfl⟩:=h
 intro w0 B Z φ w vs hI hargs
 obtain rfl:=AfB hargs
 obtain⟨x,rfl⟩:∃n:Nat,x=n:=⟨x.toNat,by omega⟩
 obtain⟨y,rfl⟩:∃n:Nat,y=n:=⟨y.toNat,by omega⟩
 obtain⟨c,rfl⟩:∃n:Nat,c=n:=⟨c.toNat,by omega⟩
 refine .inr ⟨_,?_,Z,φ,hI,Later.refl _ _ _ _ _,_,rfl,AiL⟩
 rw[run_callFunc_extern Tryd.func58 (by kernel_rfl) (by kernel_rfl) (by kernel_rfl) (e:=Ac1) (by kernel_rfl),Ac3 x y c (by omega)]
 simp only[Result.andThen]
 rfl
theorem Af2:Ar Tryd.prog fun f' args s=>if f'=60 then NW args s else none:=by
 intro f args s out s' h
 replace h:(if f=60 then NW args s else none)=some (out,s'):=h
 rcases Decidable.em (f=60)with hf|hf
 case inr=>rw[if_neg hf]at h;cases h
 rw[if_pos hf]at h
 subst hf
 unfold NW at h
 split at h
 case h_2=>cases h
 rename_i x y c
 split at h
 case isFalse=>cases h
 rename_i hc
 simp only[Option.some.injEq,Prod.mk.injEq]at h
 obtain⟨rfl,rfl⟩:=h
 intro w0 B Z φ w vs hI hargs
 obtain rfl:=AfB hargs
 obtain⟨x,rfl⟩:∃n:Nat,x=n:=⟨x.toNat,by omega⟩
 obtain⟨y,rfl⟩:∃n:Nat,y=n:=⟨y.toNat,by omega⟩
 obtain⟨c,rfl⟩:∃n:Nat,c=n:=⟨c.toNat,by omega⟩
 refine .inr ⟨_,?_,Z,φ,hI,Later.refl _ _ _ _ _,_,rfl,AiL⟩
 rw[run_callFunc_extern Tryd.func60 (by kernel_rfl) (by kernel_rfl) (by kernel_rfl) (e:=Ac2) (by kernel_rfl),Ac4 x y c (by omega)]
 simp only[Result.andThen]
 have e1:(((x+18446744073709551616-y-c) % 18446744073709551616:Nat):Int)=((x:Int)+m64-y-c) % m64:=by
  have h:=hc.2.2.2.2
  unfold m64 at h ⊢
  omega
 have e2:((if x<y+c then 1 else 0:Nat):Int)=if(x:Int)<y+c then 1 else 0:=by
  split<;>split<;>omega
 rw[e1,e2]
end
end AI
end Go.Proofs.YtiimoiecghmebaaDoor
