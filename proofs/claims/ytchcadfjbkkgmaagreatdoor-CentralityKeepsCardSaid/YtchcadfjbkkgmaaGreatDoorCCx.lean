/- A function with its compiled form: what the compiler answers, reduced. -/
import Derived.Test.YtchcadfjbkkgmaaGreatDoorCSe
import Derived.Test.YtchcadfjbkkgmaaGreatDoorProg
import Derived.KernelRfl
set_option linter.unusedVariables false
set_option maxRecDepth 4000
namespace Go.Proofs.YtchcadfjbkkgmaaGreatDoor
namespace AI
def r (i:Nat) (l:List Nat):FH:={id:=i,live:=l}
def rh (i:Nat) (l h:List Nat):FH:={id:=i,live:=l,hdr:=h}
def ro (i:Nat) (l:List Nat) (o:List (Nat×G6)):FH:={id:=i,live:=l,ops:=o}
def rd (i n:Nat) (l:List Nat):FH:={id:=i,head:=some n,live:=l}
def nw (i:Nat):Nat×G6:=(i,.own)
def sh (i:Nat):Nat×G6:=(i,.mode .share)
def ke (i:Nat):Nat×G6:=(i,.mode .keep)
def ow (i:Nat):Nat×G6:=(i,.mode .own)
theorem io (n:Nat):Int.ofNat (no_index (@OfNat.ofNat Nat n (instOfNatNat n)))=(@OfNat.ofNat Int n (@instOfNat n)):=rfl
noncomputable def Zv (ops:Array Oper) (n:Nat) (an:List (Nat×G6)) (w:List (Nat×CW)):List Oper→Nat→Option (List AU)
 |[],_=>some []
 |o::os,i=>match(match w.find? (fun p=>p.1==i)with|some p=>some p.2|none=>JW Tryz.prog o (Ub an i)),EX ops n o.guard,Zv ops n an w os (i+1)with
  |some ao,some g,some r=>some (⟨o.dst,ao,g⟩::r)
  |_,_,_=>none
def tell {α:Type} (l:List (Nat×List α)) (i:Nat):List α:=match l.find? (fun p=>p.1==i)with|some p=>p.2|none=>[]
noncomputable def Pg (n:Nat) (an:List FH) (u:List (Nat×List (Nat×Nat))) (w:List (Nat×List (Nat×CW))):Code→Option Bd
 | .skip=>some .skip
 | .region id ops draw=>
   let a:=EJ an id
   match Zv ops n a.ops (tell w id) ops.toList 0 with
   |some os=>if draw then
     let m:=a.head.getD os.length
     if a.par then some (.par m (tell u id) a.KG os a.live a.trunc)
     else if a.mix then some (.mix m a.wob a.pc a.KG os a.live a.trunc)
     else some (.region (some m) a.KG os a.live a.trunc)
    else some (.region none a.KG os a.live a.trunc)
   |none=>some Na
 | .seq x y=>match Pg n an u w x,Pg n an u w y with
   |some a,some b=>some (.seq a b)
   |_,_=>none
 | .cond c x y=>match Az c,Pg n an u w x,Pg n an u w y with
   |some c,some a,some b=>some (.cond c a b)
   |_,_,_=>none
 | .block id x=>(Pg n an u w x).map (.block id)
 | .loop x=>(Pg n an u w x).map (.loop (EJ an (JJ x)).hdr)
 | .exit id=>some (.exit id)
 | .ret=>some .ret
 |_=>some Na
noncomputable def AkE (an:List FH) (u:List (Nat×List (Nat×Nat))) (w:List (Nat×List (Nat×CW))) (f:Func):Option GU:=
 match f.body with
 |some b=>match Pg f.ntmps an u w b,Fj Tryz.prog f.ntmps f.results.toList with
  |some c,some rs=>some ⟨f.params.size+f.nfree,c,rs⟩
  |_,_=>none
 |none=>none
theorem in1:Int.negSucc 0=-1:=rfl
theorem in2:Int.negSucc 999999999999999=-1000000000000000:=rfl
abbrev Cm (n:List FH) (f:Func):={a:GU // Ov Tryz.prog n f=some a}
noncomputable def BL {n:List FH} {f:Func} (u:List (Nat×List (Nat×Nat)):=[]) (w:List (Nat×List (Nat×CW)):=[]) (x:{a:GU // AkE n u w f=some a}:=by refine⟨?a,?h⟩;rotate_left;conv=>lhs;reduce;dsimp only[io,in1,in2]) (h:Ov Tryz.prog n f=some x.1:=by kernel_rfl):Cm n f:=⟨x.1,h⟩
theorem ex {n : List FH} {f : Func} {i : Nat} (x : Cm n f) (h1 : Tryz.prog.funcs[i]? = some f := by kernel_rfl) (h2 : (f.name == "runtime.NumGoroutine") = false := by kernel_rfl) : Xo Tryz.prog i (.code x.1) := ⟨f, _, h1, h2, x.2⟩
def nl:Bd→Nat
 | .seq a b=>nl a+nl b
 | .cond _ a b=>nl a+nl b
 | .block _ a=>nl a
 | .loop _ a=>nl a+1
 |_=>0
def VL:Bd→Nat→List Nat×Bd
 | .seq a b,k=>if k<nl a then VL a k else VL b (k-nl a)
 | .cond _ a b,k=>if k<nl a then VL a k else VL b (k-nl a)
 | .block _ a,k=>VL a k
 | .loop h a,k=>if k<nl a then VL a k else(h,a)
 |_,_=>([],.skip)
end AI
end Go.Proofs.YtchcadfjbkkgmaaGreatDoor
