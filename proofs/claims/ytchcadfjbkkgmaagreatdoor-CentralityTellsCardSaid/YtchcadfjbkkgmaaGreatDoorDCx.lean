/- A function with its compiled form: what the compiler answers, reduced. -/
import Derived.Test.YtchcadfjbkkgmaaGreatDoorDSe
import Derived.Test.YtchcadfjbkkgmaaGreatDoorProg
import Derived.KernelRfl
set_option linter.unusedVariables false
set_option maxRecDepth 4000
namespace Go.Proofs.YtchcadfjbkkgmaaGreatDoor
namespace AI
def r (i:Nat) (l:List Nat):EJ:={id:=i,live:=l}
def rh (i:Nat) (l h:List Nat):EJ:={id:=i,live:=l,hdr:=h}
def ro (i:Nat) (l:List Nat) (o:List (Nat×F7)):EJ:={id:=i,live:=l,ops:=o}
def rd (i n:Nat) (l:List Nat):EJ:={id:=i,head:=some n,live:=l}
def nw (i:Nat):Nat×F7:=(i,.own)
def sh (i:Nat):Nat×F7:=(i,.mode .share)
def ke (i:Nat):Nat×F7:=(i,.mode .keep)
def ow (i:Nat):Nat×F7:=(i,.mode .own)
theorem io (n:Nat):Int.ofNat (no_index (@OfNat.ofNat Nat n (instOfNatNat n)))=(@OfNat.ofNat Int n (@instOfNat n)):=rfl
noncomputable def YB (ops:Array Oper) (n:Nat) (an:List (Nat×F7)) (w:List (Nat×BP)):List Oper→Nat→Option (List Az)
 |[],_=>some []
 |o::os,i=>match(match w.find? (fun p=>p.1==i)with|some p=>some p.2|none=>Jt Tryz.prog o (Ti an i)),Em ops n o.guard,YB ops n an w os (i+1)with
  |some ao,some g,some r=>some (⟨o.dst,ao,g⟩::r)
  |_,_,_=>none
def tell {α:Type} (l:List (Nat×List α)) (i:Nat):List α:=match l.find? (fun p=>p.1==i)with|some p=>p.2|none=>[]
noncomputable def Oa (n:Nat) (an:List EJ) (u:List (Nat×List (Nat×Nat))) (w:List (Nat×List (Nat×BP))):Code→Option AQ
 | .skip=>some .skip
 | .region id ops draw=>
   let a:=Ea an id
   match YB ops n a.ops (tell w id) ops.toList 0 with
   |some os=>if draw then
     let m:=a.head.getD os.length
     if a.par then some (.par m (tell u id) a.JW os a.live a.trunc)
     else if a.mix then some (.mix m a.wob a.pc a.JW os a.live a.trunc)
     else some (.region (some m) a.JW os a.live a.trunc)
    else some (.region none a.JW os a.live a.trunc)
   |none=>some LH
 | .seq x y=>match Oa n an u w x,Oa n an u w y with
   |some a,some b=>some (.seq a b)
   |_,_=>none
 | .cond c x y=>match Aq c,Oa n an u w x,Oa n an u w y with
   |some c,some a,some b=>some (.cond c a b)
   |_,_,_=>none
 | .block id x=>(Oa n an u w x).map (.block id)
 | .loop x=>(Oa n an u w x).map (.loop (Ea an (Jl x)).hdr)
 | .exit id=>some (.exit id)
 | .ret=>some .ret
 |_=>some LH
noncomputable def AiD (an:List EJ) (u:List (Nat×List (Nat×Nat))) (w:List (Nat×List (Nat×BP))) (f:Func):Option FQ:=
 match f.body with
 |some b=>match Oa f.ntmps an u w b,EC Tryz.prog f.ntmps f.results.toList with
  |some c,some rs=>some ⟨f.params.size+f.nfree,c,rs⟩
  |_,_=>none
 |none=>none
theorem in1:Int.negSucc 0=-1:=rfl
theorem in2:Int.negSucc 999999999999999=-1000000000000000:=rfl
abbrev Cm (n:List EJ) (f:Func):={a:FQ // Np Tryz.prog n f=some a}
noncomputable def Bl {n:List EJ} {f:Func} (u:List (Nat×List (Nat×Nat)):=[]) (w:List (Nat×List (Nat×BP)):=[]) (x:{a:FQ // AiD n u w f=some a}:=by refine⟨?a,?h⟩;rotate_left;conv=>lhs;reduce;dsimp only[io,in1,in2]) (h:Np Tryz.prog n f=some x.1:=by kernel_rfl):Cm n f:=⟨x.1,h⟩
theorem ex {n : List EJ} {f : Func} {i : Nat} (x : Cm n f) (h1 : Tryz.prog.funcs[i]? = some f := by kernel_rfl) (h2 : (f.name == "runtime.NumGoroutine") = false := by kernel_rfl) : WA Tryz.prog i (.code x.1) := ⟨f, _, h1, h2, x.2⟩
def nl:AQ→Nat
 | .seq a b=>nl a+nl b
 | .cond _ a b=>nl a+nl b
 | .block _ a=>nl a
 | .loop _ a=>nl a+1
 |_=>0
def lpX:AQ→Nat→List Nat×AQ
 | .seq a b,k=>if k<nl a then lpX a k else lpX b (k-nl a)
 | .cond _ a b,k=>if k<nl a then lpX a k else lpX b (k-nl a)
 | .block _ a,k=>lpX a k
 | .loop h a,k=>if k<nl a then lpX a k else(h,a)
 |_,_=>([],.skip)
end AI
end Go.Proofs.YtchcadfjbkkgmaaGreatDoor
