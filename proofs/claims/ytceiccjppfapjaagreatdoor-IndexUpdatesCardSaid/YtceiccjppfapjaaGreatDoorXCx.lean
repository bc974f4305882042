/- A function with its compiled form: what the compiler answers, reduced. -/
import Derived.Test.YtceiccjppfapjaaGreatDoorXSe
import Derived.Test.YtceiccjppfapjaaGreatDoorProg
import Derived.KernelRfl
set_option linter.unusedVariables false
set_option maxRecDepth 4000
namespace Go.Proofs.YtceiccjppfapjaaGreatDoor
namespace AI
def r (i:Nat) (l:List Nat):I9:={id:=i,live:=l}
def rh (i:Nat) (l h:List Nat):I9:={id:=i,live:=l,hdr:=h}
def ro (i:Nat) (l:List Nat) (o:List (Nat×IC)):I9:={id:=i,live:=l,ops:=o}
def rd (i n:Nat) (l:List Nat):I9:={id:=i,head:=some n,live:=l}
def nw (i:Nat):Nat×IC:=(i,.own)
def sh (i:Nat):Nat×IC:=(i,.mode .share)
def ke (i:Nat):Nat×IC:=(i,.mode .keep)
def ow (i:Nat):Nat×IC:=(i,.mode .own)
theorem io (n:Nat):Int.ofNat (no_index (@OfNat.ofNat Nat n (instOfNatNat n)))=(@OfNat.ofNat Int n (@instOfNat n)):=rfl
noncomputable def Xd (ops:Array Oper) (n:Nat) (an:List (Nat×IC)) (w:List (Nat×Ci)):List Oper→Nat→Option (List AQ)
 |[],_=>some []
 |o::os,i=>match(match w.find? (fun p=>p.1==i)with|some p=>some p.2|none=>OW Tryz.prog o (Zi an i)),Ib ops n o.guard,Xd ops n an w os (i+1)with
  |some ao,some g,some r=>some (⟨o.dst,ao,g⟩::r)
  |_,_,_=>none
def tell {α:Type} (l:List (Nat×List α)) (i:Nat):List α:=match l.find? (fun p=>p.1==i)with|some p=>p.2|none=>[]
noncomputable def Nh (n:Nat) (an:List I9) (u:List (Nat×List (Nat×Nat))) (w:List (Nat×List (Nat×Ci))):Code→Option Bh
 | .skip=>some .skip
 | .region id ops draw=>
   let a:=EU an id
   match Xd ops n a.ops (tell w id) ops.toList 0 with
   |some os=>if draw then
     let m:=a.head.getD os.length
     if a.par then some (.par m (tell u id) a.JE os a.live a.trunc)
     else if a.mix then some (.mix m a.wob a.pc a.JE os a.live a.trunc)
     else some (.region (some m) a.JE os a.live a.trunc)
    else some (.region none a.JE os a.live a.trunc)
   |none=>some OQ
 | .seq x y=>match Nh n an u w x,Nh n an u w y with
   |some a,some b=>some (.seq a b)
   |_,_=>none
 | .cond c x y=>match Az c,Nh n an u w x,Nh n an u w y with
   |some c,some a,some b=>some (.cond c a b)
   |_,_,_=>none
 | .block id x=>(Nh n an u w x).map (.block id)
 | .loop x=>(Nh n an u w x).map (.loop (EU an (IW x)).hdr)
 | .exit id=>some (.exit id)
 | .ret=>some .ret
 |_=>some OQ
noncomputable def Ahs (an:List I9) (u:List (Nat×List (Nat×Nat))) (w:List (Nat×List (Nat×Ci))) (f:Func):Option G5:=
 match f.body with
 |some b=>match Nh f.ntmps an u w b,FH Tryz.prog f.ntmps f.results.toList with
  |some c,some rs=>some ⟨f.params.size+f.nfree,c,rs⟩
  |_,_=>none
 |none=>none
theorem in1:Int.negSucc 0=-1:=rfl
theorem in2:Int.negSucc 999999999999999=-1000000000000000:=rfl
abbrev Cm (n:List I9) (f:Func):={a:G5 // Px Tryz.prog n f=some a}
noncomputable def Au {n:List I9} {f:Func} (u:List (Nat×List (Nat×Nat)):=[]) (w:List (Nat×List (Nat×Ci)):=[]) (x:{a:G5 // Ahs n u w f=some a}:=by refine⟨?a,?h⟩;rotate_left;conv=>lhs;reduce;dsimp only[io,in1,in2]) (h:Px Tryz.prog n f=some x.1:=by kernel_rfl):Cm n f:=⟨x.1,h⟩
theorem ex {n : List I9} {f : Func} {i : Nat} (x : Cm n f) (h1 : Tryz.prog.funcs[i]? = some f := by kernel_rfl) (h2 : (f.name == "runtime.NumGoroutine") = false := by kernel_rfl) : UJ Tryz.prog i (.code x.1) := ⟨f, _, h1, h2, x.2⟩
def nl:Bh→Nat
 | .seq a b=>nl a+nl b
 | .cond _ a b=>nl a+nl b
 | .block _ a=>nl a
 | .loop _ a=>nl a+1
 |_=>0
def Iz:Bh→Nat→List Nat×Bh
 | .seq a b,k=>if k<nl a then Iz a k else Iz b (k-nl a)
 | .cond _ a b,k=>if k<nl a then Iz a k else Iz b (k-nl a)
 | .block _ a,k=>Iz a k
 | .loop h a,k=>if k<nl a then Iz a k else(h,a)
 |_,_=>([],.skip)
end AI
end Go.Proofs.YtceiccjppfapjaaGreatDoor
