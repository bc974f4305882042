/- strings.IndexFunc over the predicate of value.valid, as an entry of the table. math/bits.Add64 and Sub64, which the model answers itself, as entries of the table. Copying into a row; a row written anew: what the store's invariant becomes. -/
import Derived.Test.YtnbibfalljlmfaaGreatDoorSe
import Derived.Test.YtnbibfalljlmfaaGreatDoorIxWalk
import Derived.Tactics
import Derived.Tactics2
import Derived.StillTactics
import Derived.Scope
import Derived.FnLit
import Derived.Handy
import Derived.Test.YtnbibfalljlmfaaGreatDoorChecked
import Derived.Laws.Externs
import Derived.Laws.CopyRow
set_option linter.unusedVariables false
set_option maxRecDepth 4000
namespace Go.Proofs.YtnbibfalljlmfaaGreatDoor
namespace AI
section
open Go.RowKit
set_option maxRecDepth 1000000 in
theorem ARN (s:ByteArray) (w:World):
    Calls Tryz.prog 286 #[.string s,.func (.func 287) #[] #[]] w fun e w'=>e=.returned (.int .i64 (VP s 0))∧∃pos,w'=w.iter s pos:=by
  go_enter Tryz.func286,Tryz.ntmps286
  go_wp2_with fail
  go_call (AQS s w) as e w' ⟨he,hb⟩
  subst he
  obtain⟨p,rfl⟩:=hb
  simp only[]
  go_wp2_with fail
  go_ret
  exact⟨rfl,_,rfl⟩
def AtA:List AV→Sto→Option (AX5×Sto)
  |[.str l,.fn k []],s=>bif Nat.beq k 287 then some (.ok (.int .i64 (Ap3 l)),s)else none
  |_,_=>none
theorem ARO:Ay8 Tryz.prog fun f' args s=>if f'=286 then AtA args s else none:=by
  intro f args s out s' h
  replace h:(if f=286 then AtA args s else none)=some (out,s'):=h
  rcases Decidable.em (f=286)with hf|hf
  case inr=>rw[if_neg hf]at h;cases h
  rw[if_pos hf]at h
  subst hf
  unfold AtA at h
  split at h
  case h_2=>cases h
  rename_i l k
  cases hk:Nat.beq k 287 with
  |false=>rw[hk]at h;cases h
  | true=>
    rw[hk]at h
    have hk':=Nat.eq_of_beq_eq_true hk
    subst hk'
    cases h
    refine fun w0 B Z φ w vs hI hargs=>.inl ⟨⟨_,Tryz.func286,rfl,by decide⟩,?_⟩
    obtain⟨hl,ha⟩:=hargs
    obtain⟨v0,h0,r0⟩:=ha 0 _ rfl
    obtain⟨v1,h1,r1⟩:=ha 1 _ rfl
    cases r0 with
    |str sb _ hs=>
    cases r1 with
    |fn _ _ cvs hcl hcr=>
    have hc0:cvs=#[]:=Array.eq_empty_of_size_eq_zero hcl.symm
    subst hc0
    have hvs:vs=#[.string sb,.func (.func 287) #[] #[]]:=by
      apply Array.ext'
      refine List.ext_getElem? fun i=>?_
      match i with
      |0=>simpa using h0
      |1=>simpa using h1
      | i+2=>
        have:vs.toList.length=2:=by simpa using hl.symm
        rw[List.getElem?_eq_none (by omega)]
        rfl
    subst hvs
    refine(ARN sb w).mono ?_
    rintro e w' ⟨rfl,p,rfl⟩
    obtain⟨q1,q2⟩:=hI.grow (w':=w.iter sb p) (Below.alloc (Below.refl _ _) (Nat.le_refl _) _) (fun _ _ h=>h) (fun _ _ h=>.inl h) (fun b i h=>Nat.lt_of_lt_of_le (hI.live b i h) (by simp[World.iter]))
    refine⟨Z,φ,q1,q2,_,rfl,?_⟩
    have:VP sb 0=Ap3 l:=by
      unfold VP Ap3
      rw[List.drop_zero,hs]
      cases List.findIdx? AwT l with
      |none=>rfl
      |some i=>simp
    rw[this]
    exact .int _ _
end
section
open Go.RowKit
def m64:Int:=18446744073709551616
def addSpec:List AV→Sto→Option (AX5×Sto)
  |[.int .u64 x,.int .u64 y,.int .u64 c],s=>if 0≤x∧0≤y∧0≤c∧c≤1 then some (.ok (.tup [.int .u64 ((x+y+c) % m64),.int .u64 ((x+y+c) / m64)]),s)else none
  |_,_=>none
def AyA:List AV→Sto→Option (AX5×Sto)
  |[.int .u64 x,.int .u64 y,.int .u64 c],s=>if 0≤x∧0≤y∧0≤c∧c≤1∧y+c≤x+m64 then some (.ok (.tup [.int .u64 ((x+m64-y-c) % m64),.int .u64 (if x<y+c then 1 else 0)]),s)else none
  |_,_=>none
def addE64:Array Value→Sem Value:=fun args=>do
  let (x, y, c) ← Extern.MathBitsCarry.three "Add64" args
  pure (Extern.MathBitsCarry.pair ((x+y+c) % Extern.MathBitsCarry.m64) ((x+y+c) / Extern.MathBitsCarry.m64))
def subE64:Array Value→Sem Value:=fun args=>do
  let (x, y, b) ← Extern.MathBitsCarry.three "Sub64" args
  pure (Extern.MathBitsCarry.pair ((x+Extern.MathBitsCarry.m64-y-b) % Extern.MathBitsCarry.m64) (if x<y+b then 1 else 0))
theorem run_addE (x y c:Nat) (hc:c≤1) (w:World):(addE64 #[.int .u64 x,.int .u64 y,.int .u64 c]).run Tryz.prog w=.ok (.tuple #[.int .u64 (((x+y+c) % 18446744073709551616:Nat):Int),.int .u64 (((x+y+c) / 18446744073709551616:Nat):Int)]) w:=by
  have:c=0∨c=1:=by omega
  rcases this with rfl|rfl<;>rfl
theorem run_subE (x y b:Nat) (hb:b≤1) (w:World):(subE64 #[.int .u64 x,.int .u64 y,.int .u64 b]).run Tryz.prog w=.ok (.tuple #[.int .u64 (((x+18446744073709551616-y-b) % 18446744073709551616:Nat):Int),.int .u64 ((if x<y+b then 1 else 0:Nat):Int)]) w:=by
  have:b=0∨b=1:=by omega
  rcases this with rfl|rfl<;>rfl
theorem args3 {w:World} {Z:Cold} {φ:Phi} {ctr:Nat} {k1 k2 k3:IntKind} {a b c:Int} {vs:Array Value} (h:ArgsRep w Z φ ctr [.int k1 a,.int k2 b,.int k3 c] vs):vs=#[.int k1 a,.int k2 b,.int k3 c]:=by
  obtain⟨hl,ha⟩:=h
  obtain⟨v0,h0,r0⟩:=ha 0 _ rfl
  obtain⟨v1,h1,r1⟩:=ha 1 _ rfl
  obtain⟨v2,h2,r2⟩:=ha 2 _ rfl
  cases r0;cases r1;cases r2
  apply Array.ext_getElem?
  intro i
  match i with
  |0=>exact h0
  |1=>exact h1
  |2=>exact h2
  |i+3=>rw[Array.getElem?_eq_none (by rw[← hl];simp),Array.getElem?_eq_none (by simp)]
theorem tup2 {w:World} {Z:Cold} {φ:Phi} {ctr:Nat} {k1 k2:IntKind} {a b:Int}:Rep w Z φ ctr (.tup [.int k1 a,.int k2 b]) (.tuple #[.int k1 a,.int k2 b]):=
  .tup _ _ rfl fun i c hi=>by
    match i,hi with
    |0,hi=>cases hi;exact .int _ _
    |1,hi=>cases hi;exact .int _ _
    |i+2,hi=>simp at hi
theorem AWo:Ay8 Tryz.prog fun f' args s=>if f'=301 then addSpec args s else none:=by
  intro f args s out s' h
  replace h:(if f=301 then addSpec args s else none)=some (out,s'):=h
  rcases Decidable.em (f=301)with hf|hf
  case inr=>rw[if_neg hf]at h;cases h
  rw[if_pos hf]at h
  subst hf
  unfold addSpec at h
  split at h
  case h_2=>cases h
  rename_i x y c
  split at h
  case isFalse=>cases h
  rename_i hc
  simp only[Option.some.injEq,Prod.mk.injEq]at h
  obtain⟨rfl,rfl⟩:=h
  intro w0 B Z φ w vs hI hargs
  obtain rfl:=args3 hargs
  obtain⟨x,rfl⟩:∃n:Nat,x=n:=⟨x.toNat,by omega⟩
  obtain⟨y,rfl⟩:∃n:Nat,y=n:=⟨y.toNat,by omega⟩
  obtain⟨c,rfl⟩:∃n:Nat,c=n:=⟨c.toNat,by omega⟩
  refine .inr ⟨_,?_,Z,φ,hI,Later.refl _ _ _ _ _,_,rfl,tup2⟩
  rw[run_callFunc_extern Tryz.func301 (by kernel_rfl) (by kernel_rfl) (by kernel_rfl) (e:=addE64) (by kernel_rfl),run_addE x y c (by omega)]
  simp only[Result.andThen]
  rfl
theorem AWp:Ay8 Tryz.prog fun f' args s=>if f'=303 then AyA args s else none:=by
  intro f args s out s' h
  replace h:(if f=303 then AyA args s else none)=some (out,s'):=h
  rcases Decidable.em (f=303)with hf|hf
  case inr=>rw[if_neg hf]at h;cases h
  rw[if_pos hf]at h
  subst hf
  unfold AyA at h
  split at h
  case h_2=>cases h
  rename_i x y c
  split at h
  case isFalse=>cases h
  rename_i hc
  simp only[Option.some.injEq,Prod.mk.injEq]at h
  obtain⟨rfl,rfl⟩:=h
  intro w0 B Z φ w vs hI hargs
  obtain rfl:=args3 hargs
  obtain⟨x,rfl⟩:∃n:Nat,x=n:=⟨x.toNat,by omega⟩
  obtain⟨y,rfl⟩:∃n:Nat,y=n:=⟨y.toNat,by omega⟩
  obtain⟨c,rfl⟩:∃n:Nat,c=n:=⟨c.toNat,by omega⟩
  refine .inr ⟨_,?_,Z,φ,hI,Later.refl _ _ _ _ _,_,rfl,tup2⟩
  rw[run_callFunc_extern Tryz.func303 (by kernel_rfl) (by kernel_rfl) (by kernel_rfl) (e:=subE64) (by kernel_rfl),run_subE x y c (by omega)]
  simp only[Result.andThen]
  have e1:(((x+18446744073709551616-y-c) % 18446744073709551616:Nat):Int)=((x:Int)+m64-y-c) % m64:=by
    have h:=hc.2.2.2.2
    unfold m64 at h ⊢
    omega
  have e2:((if x<y+c then 1 else 0:Nat):Int)=if(x:Int)<y+c then 1 else 0:=by
    split<;>split<;>omega
  rw[e1,e2]
end
section
open Go.RowKit
variable {P:Program} {B:Nat} {w w' w0:World} {Z Z':Cold} {φ φ':Phi} {ctr ctr':Nat} {s s':Sto}
theorem run_copy_rowE (w:World) {dT sT ty elem:TypeId} {inf:TypeInfo} (g o dLen dCap:Nat) (a:Addr) (sLen sCap:Nat) (cur:Array Value) (t:TypeId) (cs:List Value)
    (hu:P.underlying dT=some (.slice elem)) (hi:P.info? elem=some inf)
    (hg:w.heap[g]?=some (.cells cur t (0,0))) (hn:cs.length=Nat.min sLen dLen*inf.size)
    (hsrc:∀(j:Nat) (v:Value),cs[j]?=some v→w.cell? (a.add j)=some v) (hfit:o+cs.length≤cur.size) (h1:∀v∈cs,v.oneCell'=true):
    (Builtin.copy_ #[dT,sT] ty #[.slice (some ⟨g,o,none⟩) dLen dCap,.slice (some a) sLen sCap]).run P w=
      .ok (goInt (Nat.min sLen dLen)) (w.setRow g (cur.toList.take o++cs++cur.toList.drop (o+cs.length)).toArray):=by
  have hf:=run_firstCells_some (P:=P) w inf.size (Nat.min sLen dLen) a sLen sCap cs hn hsrc
  have hst:=run_storeCells_at P g o t cs 0 cur w hg (by simpa using hfit) h1
  simp only[Nat.add_zero]at hst
  simp[Builtin.copy_,run_underlying hu,Builtin.lenOf,sizeOf,typeInfo,hi,hf,hst]
theorem inv_fresh (hI:Inv w0 B s Z φ w) {o g es:Nat} {nn cl cl':Bool} {elems elems':List AV} (ho:s.σ[o]?=some (.arr g es nn cl elems)) (h0:0<es) {w1:World} {cells:Array Value} {e:TypeId} {cap:Nat}
    (hbel:Below w.heap.size w w1) (hw1:w1.heap[w.heap.size]?=some (.cells cells e (0,0))) (hH:Holds w Z φ s.ctr cells es cl' elems') (hcap:cap*es=cells.size) (hle:elems'.length≤cap) (hmx:cap≤maxLen):
    ∃φ',Inv w0 B ⟨s.σ.set o (.arr s.ctr es true cl' elems'),s.ctr+1⟩ Z φ' w1∧Rep w1 Z φ' (s.ctr+1) (.own o s.ctr 0 elems'.length) (.slice (some ⟨w.heap.size,0,none⟩) elems'.length cap)∧Later B w Z φ s.ctr w1 Z φ' (s.ctr+1):=by
  have hL:Later B w Z φ s.ctr w1 Z (phiSet φ s.ctr (.row w.heap.size es cells.size)) (s.ctr+1):=later_new hI hbel (fun _ _ h=>h) (fun _ _ h=>.inl h) (fun g hg=>phiSet_lt φ _ hg) (by omega)
  refine⟨_,hI.set ho (hbel.mono hI.base) hL (fun b i h=>Nat.lt_of_lt_of_le (hI.live b i h) hbel.size) (fun o' ob' g' b' e' n' _ ho' hg' hφ'=>⟨hbel.block b' ((hI.objs o' ob' ho').place hg' hφ').1,fun i h=>h⟩) ?_ (fun g' b' e' n' hg' hφ'=>?_),?_,hL⟩
  · refine⟨by omega,h0,?_⟩
    rw[phiSet_self]
    refine⟨rfl,rfl,hI.base,fun i hz=>?_,?_,cells,e,hw1,rfl,hH.later hL⟩
    · have:=hI.live _ i hz;omega
    · rw[← hcap];exact Nat.mul_le_mul_right _ hle
  · simp only[Obj.gen,Option.some.injEq]at hg'
    subst hg'
    rw[phiSet_self]at hφ'
    simp only[Plc.row.injEq]at hφ'
    exact .inl (by omega)
  · exact .own _ _ _ _ w.heap.size es cells.size cap _ (by omega) (phiSet_self _ _ _) hle (fun _=>⟨by simp,by simpa using hcap,hmx⟩) rfl
theorem inv_row (hI:Inv w0 B s Z φ w) {o g es:Nat} {nn cl cl':Bool} {elems elems':List AV} (ho:s.σ[o]?=some (.arr g es nn cl elems)) (h0:0<es) {b size cap:Nat} (hφ:φ g=.row b es size) (hB:B≤b) (hnz:∀i,¬Z b i) {w1:World} {cells:Array Value} {t:TypeId}
    (hbel:Below B w w1) (hoth:∀k,k≠b→w1.heap[k]?=w.heap[k]?) (hw1:w1.heap[b]?=some (.cells cells t (0,0))) (hsz:cells.size=size) (hH:Holds w Z φ s.ctr cells es cl' elems') (hcap:cap*es=size) (hle:elems'.length≤cap) (hmx:cap≤maxLen):
    ∃φ',Inv w0 B ⟨s.σ.set o (.arr s.ctr es true cl' elems'),s.ctr+1⟩ Z φ' w1∧Rep w1 Z φ' (s.ctr+1) (.own o s.ctr 0 elems'.length) (.slice (some ⟨b,0,none⟩) elems'.length cap)∧Later B w Z φ s.ctr w1 Z φ' (s.ctr+1):=by
  have hL:Later B w Z φ s.ctr w1 Z (phiSet φ s.ctr (.row b es size)) (s.ctr+1):=by
    refine⟨fun _ _ h=>.inl h,by omega,fun _ _ h=>h,fun b' i h=>?_,fun g hg=>phiSet_lt φ _ hg⟩
    refine World.cell?_of_block (w:=w) (hoth b' ?_)
    rintro rfl
    exact hnz i h
  refine⟨_,hI.set ho hbel hL (fun b' i h=>Nat.lt_of_lt_of_le (hI.live b' i h) hbel.size) (fun o' ob' g' b' e' n' hne' ho' hg' hφ'=>⟨hoth b' ?_,fun i h=>h⟩) ⟨by omega,h0,?_⟩ (fun g' b' e' n' hg' hφ'=>?_),?_,hL⟩
  · rintro rfl
    exact hne' (hI.apart o' o ob' _ g' g _ _ _ _ _ ho' ho hg' rfl hφ' hφ)
  · rw[phiSet_self]
    exact⟨rfl,rfl,hB,hnz,by rw[← hcap];exact Nat.mul_le_mul_right _ hle,cells,t,hw1,hsz,hH.later hL⟩
  · simp only[Obj.gen,Option.some.injEq]at hg'
    subst hg'
    rw[phiSet_self]at hφ'
    simp only[Plc.row.injEq]at hφ'
    obtain⟨rfl,_⟩:=hφ'
    exact .inr ⟨g,_,_,rfl,hφ⟩
  · exact .own _ _ _ _ b es size cap _ (Nat.lt_succ_self _) (phiSet_self _ _ _) hle (fun _=>⟨by simp,by simpa using hcap,hmx⟩) rfl
end
end AI
end Go.Proofs.YtnbibfalljlmfaaGreatDoor
