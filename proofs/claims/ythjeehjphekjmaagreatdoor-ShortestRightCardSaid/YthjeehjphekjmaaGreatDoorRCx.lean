/- A function with its compiled form: what the compiler answers, reduced. -/
import Derived.Test.YthjeehjphekjmaaGreatDoorBSe
import Derived.Test.YthjeehjphekjmaaGreatDoorProg
import Derived.KernelRfl
set_option linter.unusedVariables false
set_option maxRecDepth 4000
namespace Go.Proofs.YthjeehjphekjmaaGreatDoor
namespace AI
def r (i:Nat) (l:List Nat):Fb:={id:=i,live:=l}
def rh (i:Nat) (l h:List Nat):Fb:={id:=i,live:=l,hdr:=h}
def ro (i:Nat) (l:List Nat) (o:List (Nat×GZ)):Fb:={id:=i,live:=l,ops:=o}
def rd (i n:Nat) (l:List Nat):Fb:={id:=i,head:=some n,live:=l}
def nw (i:Nat):Nat×GZ:=(i,.own)
def sh (i:Nat):Nat×GZ:=(i,.mode .share)
def ow (i:Nat):Nat×GZ:=(i,.mode .own)
theorem io (n:Nat):Int.ofNat (no_index (@OfNat.ofNat Nat n (instOfNatNat n)))=(@OfNat.ofNat Int n (@instOfNat n)):=rfl
noncomputable def TR (ops:Array Oper) (n:Nat) (an:List (Nat×GZ)) (w:List (Nat×BP)):List Oper→Nat→Option (List AL)
 |[],_=>some []
 |o::os,i=>match(match w.find? (fun p=>p.1==i)with|some p=>some p.2|none=>Nj Tryz.prog o (Wu an i)),GH ops n o.guard,TR ops n an w os (i+1)with
  |some ao,some g,some r=>some (⟨o.dst,ao,g⟩::r)
  |_,_,_=>none
def tell {α:Type} (l:List (Nat×List α)) (i:Nat):List α:=match l.find? (fun p=>p.1==i)with|some p=>p.2|none=>[]
noncomputable def KO (n:Nat) (an:List Fb) (u:List (Nat×List (Nat×Nat))) (w:List (Nat×List (Nat×BP))):Code→Option Am
 | .skip=>some .skip
 | .region id ops draw=>
   let a:=Eb an id
   match TR ops n a.ops (tell w id) ops.toList 0 with
   |some os=>if draw then
     let m:=a.head.getD os.length
     if a.par then some (.par m (tell u id) a.IK os a.live a.trunc)
     else if a.mix then some (.mix m a.wob a.pc a.IK os a.live a.trunc)
     else some (.region (some m) a.IK os a.live a.trunc)
    else some (.region none a.IK os a.live a.trunc)
   |none=>some Nl
 | .seq x y=>match KO n an u w x,KO n an u w y with
   |some a,some b=>some (.seq a b)
   |_,_=>none
 | .cond c x y=>match Aq c,KO n an u w x,KO n an u w y with
   |some c,some a,some b=>some (.cond c a b)
   |_,_,_=>none
 | .block id x=>(KO n an u w x).map (.block id)
 | .loop x=>(KO n an u w x).map (.loop (Eb an (Hr x)).hdr)
 | .exit id=>some (.exit id)
 | .ret=>some .ret
 |_=>some Nl
noncomputable def Aco (an:List Fb) (u:List (Nat×List (Nat×Nat))) (w:List (Nat×List (Nat×BP))) (f:Func):Option FK:=
 match f.body with
 |some b=>match KO f.ntmps an u w b,Fg Tryz.prog f.ntmps f.results.toList with
  |some c,some rs=>some ⟨f.params.size+f.nfree,c,rs⟩
  |_,_=>none
 |none=>none
theorem in1:Int.negSucc 0=-1:=rfl
theorem in2:Int.negSucc 999999999999999=-1000000000000000:=rfl
abbrev Cm (n:List Fb) (f:Func):={a:FK // KC Tryz.prog n f=some a}
noncomputable def Bf {n:List Fb} {f:Func} (u:List (Nat×List (Nat×Nat)):=[]) (w:List (Nat×List (Nat×BP)):=[]) (x:{a:FK // Aco n u w f=some a}:=by refine⟨?a,?h⟩;rotate_left;conv=>lhs;reduce;dsimp only[io,in1,in2]) (h:KC Tryz.prog n f=some x.1:=by kernel_rfl):Cm n f:=⟨x.1,h⟩
theorem ex {n : List Fb} {f : Func} {i : Nat} (x : Cm n f) (h1 : Tryz.prog.funcs[i]? = some f := by kernel_rfl) (h2 : (f.name == "runtime.NumGoroutine") = false := by kernel_rfl) : RV Tryz.prog i (.code x.1) := ⟨f, _, h1, h2, x.2⟩
def nl:Am→Nat
 | .seq a b=>nl a+nl b
 | .cond _ a b=>nl a+nl b
 | .block _ a=>nl a
 | .loop _ a=>nl a+1
 |_=>0
def DL:Am→Nat→List Nat×Am
 | .seq a b,k=>if k<nl a then DL a k else DL b (k-nl a)
 | .cond _ a b,k=>if k<nl a then DL a k else DL b (k-nl a)
 | .block _ a,k=>DL a k
 | .loop h a,k=>if k<nl a then DL a k else(h,a)
 |_,_=>([],.skip)
end AI
end Go.Proofs.YthjeehjphekjmaaGreatDoor
