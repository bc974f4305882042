/- A function with its compiled form: what the compiler answers, reduced. -/
import Derived.Test.YtjjhejbffgaabaaGreatDoorRSe
import Derived.Test.YtjjhejbffgaabaaGreatDoorProg
import Derived.KernelRfl
set_option linter.unusedVariables false
set_option maxRecDepth 4000
namespace Go.Proofs.YtjjhejbffgaabaaGreatDoor
namespace AI
def r (i:Nat) (l:List Nat):Fb:={id:=i,live:=l}
def rh (i:Nat) (l h:List Nat):Fb:={id:=i,live:=l,hdr:=h}
def ro (i:Nat) (l:List Nat) (o:List (Nat×FT)):Fb:={id:=i,live:=l,ops:=o}
def rd (i n:Nat) (l:List Nat):Fb:={id:=i,head:=some n,live:=l}
def nw (i:Nat):Nat×FT:=(i,.own)
def sh (i:Nat):Nat×FT:=(i,.mode .share)
def ke (i:Nat):Nat×FT:=(i,.mode .keep)
def ow (i:Nat):Nat×FT:=(i,.mode .own)
theorem io (n:Nat):Int.ofNat (no_index (@OfNat.ofNat Nat n (instOfNatNat n)))=(@OfNat.ofNat Int n (@instOfNat n)):=rfl
noncomputable def Wn (ops:Array Oper) (n:Nat) (an:List (Nat×FT)) (w:List (Nat×Cb)):List Oper→Nat→Option (List Aw)
 |[],_=>some []
 |o::os,i=>match(match w.find? (fun p=>p.1==i)with|some p=>some p.2|none=>I4 Tryz.prog o (QC an i)),Es ops n o.guard,Wn ops n an w os (i+1)with
  |some ao,some g,some r=>some (⟨o.dst,ao,g⟩::r)
  |_,_,_=>none
def tell {α:Type} (l:List (Nat×List α)) (i:Nat):List α:=match l.find? (fun p=>p.1==i)with|some p=>p.2|none=>[]
noncomputable def MR (n:Nat) (an:List Fb) (u:List (Nat×List (Nat×Nat))) (w:List (Nat×List (Nat×Cb))):Code→Option AA
 | .skip=>some .skip
 | .region id ops draw=>
   let a:=Ed an id
   match Wn ops n a.ops (tell w id) ops.toList 0 with
   |some os=>if draw then
     let m:=a.head.getD os.length
     if a.par then some (.par m (tell u id) a.JD os a.live a.trunc)
     else if a.mix then some (.mix m a.wob a.pc a.JD os a.live a.trunc)
     else some (.region (some m) a.JD os a.live a.trunc)
    else some (.region none a.JD os a.live a.trunc)
   |none=>some KI
 | .seq x y=>match MR n an u w x,MR n an u w y with
   |some a,some b=>some (.seq a b)
   |_,_=>none
 | .cond c x y=>match Ap c,MR n an u w x,MR n an u w y with
   |some c,some a,some b=>some (.cond c a b)
   |_,_,_=>none
 | .block id x=>(MR n an u w x).map (.block id)
 | .loop x=>(MR n an u w x).map (.loop (Ed an (IE x)).hdr)
 | .exit id=>some (.exit id)
 | .ret=>some .ret
 |_=>some KI
noncomputable def AgH (an:List Fb) (u:List (Nat×List (Nat×Nat))) (w:List (Nat×List (Nat×Cb))) (f:Func):Option F9:=
 match f.body with
 |some b=>match MR f.ntmps an u w b,ED Tryz.prog f.ntmps f.results.toList with
  |some c,some rs=>some ⟨f.params.size+f.nfree,c,rs⟩
  |_,_=>none
 |none=>none
theorem in1:Int.negSucc 0=-1:=rfl
theorem in2:Int.negSucc 999999999999999=-1000000000000000:=rfl
abbrev Cm (n:List Fb) (f:Func):={a:F9 // LX Tryz.prog n f=some a}
noncomputable def BD {n:List Fb} {f:Func} (u:List (Nat×List (Nat×Nat)):=[]) (w:List (Nat×List (Nat×Cb)):=[]) (x:{a:F9 // AgH n u w f=some a}:=by refine⟨?a,?h⟩;rotate_left;conv=>lhs;reduce;dsimp only[io,in1,in2]) (h:LX Tryz.prog n f=some x.1:=by kernel_rfl):Cm n f:=⟨x.1,h⟩
theorem ex {n : List Fb} {f : Func} {i : Nat} (x : Cm n f) (h1 : Tryz.prog.funcs[i]? = some f := by kernel_rfl) (h2 : (f.name == "runtime.NumGoroutine") = false := by kernel_rfl) : UM Tryz.prog i (.code x.1) := ⟨f, _, h1, h2, x.2⟩
def nl:AA→Nat
 | .seq a b=>nl a+nl b
 | .cond _ a b=>nl a+nl b
 | .block _ a=>nl a
 | .loop _ a=>nl a+1
 |_=>0
def GZ:AA→Nat→List Nat×AA
 | .seq a b,k=>if k<nl a then GZ a k else GZ b (k-nl a)
 | .cond _ a b,k=>if k<nl a then GZ a k else GZ b (k-nl a)
 | .block _ a,k=>GZ a k
 | .loop h a,k=>if k<nl a then GZ a k else(h,a)
 |_,_=>([],.skip)
end AI
end Go.Proofs.YtjjhejbffgaabaaGreatDoor
