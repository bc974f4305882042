/- A function with its compiled form: what the compiler answers, reduced. -/
import Derived.Test.YthnehejdkajjhaaGreatDoorBSe
import Derived.Test.YthnehejdkajjhaaGreatDoorProg
import Derived.KernelRfl
set_option linter.unusedVariables false
set_option maxRecDepth 4000
namespace Go.Proofs.YthnehejdkajjhaaGreatDoor
namespace AI
def r (i:Nat) (l:List Nat):LH:={id:=i,live:=l}
def rh (i:Nat) (l h:List Nat):LH:={id:=i,live:=l,hdr:=h}
def ro (i:Nat) (l:List Nat) (o:List (Nat×KL)):LH:={id:=i,live:=l,ops:=o}
def rd (i n:Nat) (l:List Nat):LH:={id:=i,head:=some n,live:=l}
def nw (i:Nat):Nat×KL:=(i,.own)
def sh (i:Nat):Nat×KL:=(i,.mode .share)
def ke (i:Nat):Nat×KL:=(i,.mode .keep)
def ow (i:Nat):Nat×KL:=(i,.mode .own)
theorem io (n:Nat):Int.ofNat (no_index (@OfNat.ofNat Nat n (instOfNatNat n)))=(@OfNat.ofNat Int n (@instOfNat n)):=rfl
noncomputable def Aa1 (ops:Array Oper) (n:Nat) (an:List (Nat×KL)) (w:List (Nat×Dp)):List Oper→Nat→Option (List Bj)
 |[],_=>some []
 |o::os,i=>match(match w.find? (fun p=>p.1==i)with|some p=>some p.2|none=>TL Tryz.prog o (AdN an i)),J4 ops n o.guard,Aa1 ops n an w os (i+1)with
  |some ao,some g,some r=>some (⟨o.dst,ao,g⟩::r)
  |_,_,_=>none
def tell {α:Type} (l:List (Nat×List α)) (i:Nat):List α:=match l.find? (fun p=>p.1==i)with|some p=>p.2|none=>[]
noncomputable def Qy (n:Nat) (an:List LH) (u:List (Nat×List (Nat×Nat))) (w:List (Nat×List (Nat×Dp))):Code→Option AY
 | .skip=>some .skip
 | .region id ops draw=>
   let a:=Gm an id
   match Aa1 ops n a.ops (tell w id) ops.toList 0 with
   |some os=>if draw then
     let m:=a.head.getD os.length
     if a.par then some (.par m (tell u id) a.Nr os a.live a.trunc)
     else if a.mix then some (.mix m a.wob a.pc a.Nr os a.live a.trunc)
     else some (.region (some m) a.Nr os a.live a.trunc)
    else some (.region none a.Nr os a.live a.trunc)
   |none=>some TF
 | .seq x y=>match Qy n an u w x,Qy n an u w y with
   |some a,some b=>some (.seq a b)
   |_,_=>none
 | .cond c x y=>match Bc c,Qy n an u w x,Qy n an u w y with
   |some c,some a,some b=>some (.cond c a b)
   |_,_,_=>none
 | .block id x=>(Qy n an u w x).map (.block id)
 | .loop x=>(Qy n an u w x).map (.loop (Gm an (KW x)).hdr)
 | .exit id=>some (.exit id)
 | .ret=>some .ret
 |_=>some TF
noncomputable def An3 (an:List LH) (u:List (Nat×List (Nat×Nat))) (w:List (Nat×List (Nat×Dp))) (f:Func):Option Jr:=
 match f.body with
 |some b=>match Qy f.ntmps an u w b,Ho Tryz.prog f.ntmps f.results.toList with
  |some c,some rs=>some ⟨f.params.size+f.nfree,c,rs⟩
  |_,_=>none
 |none=>none
theorem in1:Int.negSucc 0=-1:=rfl
theorem in2:Int.negSucc 999999999999999=-1000000000000000:=rfl
abbrev Cm (n:List LH) (f:Func):={a:Jr // Us Tryz.prog n f=some a}
noncomputable def Bg {n:List LH} {f:Func} (u:List (Nat×List (Nat×Nat)):=[]) (w:List (Nat×List (Nat×Dp)):=[]) (x:{a:Jr // An3 n u w f=some a}:=by refine⟨?a,?h⟩;rotate_left;conv=>lhs;reduce;dsimp only[io,in1,in2]) (h:Us Tryz.prog n f=some x.1:=by kernel_rfl):Cm n f:=⟨x.1,h⟩
theorem ex {n : List LH} {f : Func} {i : Nat} (x : Cm n f) (h1 : Tryz.prog.funcs[i]? = some f := by kernel_rfl) (h2 : (f.name == "runtime.NumGoroutine") = false := by kernel_rfl) : Zu Tryz.prog i (.code x.1) := ⟨f, _, h1, h2, x.2⟩
def nl:AY→Nat
 | .seq a b=>nl a+nl b
 | .cond _ a b=>nl a+nl b
 | .block _ a=>nl a
 | .loop _ a=>nl a+1
 |_=>0
def D7:AY→Nat→List Nat×AY
 | .seq a b,k=>if k<nl a then D7 a k else D7 b (k-nl a)
 | .cond _ a b,k=>if k<nl a then D7 a k else D7 b (k-nl a)
 | .block _ a,k=>D7 a k
 | .loop h a,k=>if k<nl a then D7 a k else(h,a)
 |_,_=>([],.skip)
end AI
end Go.Proofs.YthnehejdkajjhaaGreatDoor
