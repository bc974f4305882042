/- A function with its compiled form: what the compiler answers, reduced. -/
import Derived.Test.YtjijnamhalgamaaGreatDoorBSe
import Derived.Test.YtjijnamhalgamaaGreatDoorProg
import Derived.KernelRfl
set_option linter.unusedVariables false
set_option maxRecDepth 4000
namespace Go.Proofs.YtjijnamhalgamaaGreatDoor
namespace AI
def r (i:Nat) (l:List Nat):JX:={id:=i,live:=l}
def rh (i:Nat) (l h:List Nat):JX:={id:=i,live:=l,hdr:=h}
def ro (i:Nat) (l:List Nat) (o:List (Nat×Ju)):JX:={id:=i,live:=l,ops:=o}
def rd (i n:Nat) (l:List Nat):JX:={id:=i,head:=some n,live:=l}
def nw (i:Nat):Nat×Ju:=(i,.own)
def sh (i:Nat):Nat×Ju:=(i,.mode .share)
def ke (i:Nat):Nat×Ju:=(i,.mode .keep)
def ow (i:Nat):Nat×Ju:=(i,.mode .own)
theorem io (n:Nat):Int.ofNat (no_index (@OfNat.ofNat Nat n (instOfNatNat n)))=(@OfNat.ofNat Int n (@instOfNat n)):=rfl
noncomputable def X5 (ops:Array Oper) (n:Nat) (an:List (Nat×Ju)) (w:List (Nat×CG)):List Oper→Nat→Option (List AX)
 |[],_=>some []
 |o::os,i=>match(match w.find? (fun p=>p.1==i)with|some p=>some p.2|none=>Qp Tryz.prog o (Aar an i)),I9 ops n o.guard,X5 ops n an w os (i+1)with
  |some ao,some g,some r=>some (⟨o.dst,ao,g⟩::r)
  |_,_,_=>none
def tell {α:Type} (l:List (Nat×List α)) (i:Nat):List α:=match l.find? (fun p=>p.1==i)with|some p=>p.2|none=>[]
noncomputable def OB (n:Nat) (an:List JX) (u:List (Nat×List (Nat×Nat))) (w:List (Nat×List (Nat×CG))):Code→Option Bg
 | .skip=>some .skip
 | .region id ops draw=>
   let a:=Fh an id
   match X5 ops n a.ops (tell w id) ops.toList 0 with
   |some os=>if draw then
     let m:=a.head.getD os.length
     if a.par then some (.par m (tell u id) a.La os a.live a.trunc)
     else if a.mix then some (.mix m a.wob a.pc a.La os a.live a.trunc)
     else some (.region (some m) a.La os a.live a.trunc)
    else some (.region none a.La os a.live a.trunc)
   |none=>some Qz
 | .seq x y=>match OB n an u w x,OB n an u w y with
   |some a,some b=>some (.seq a b)
   |_,_=>none
 | .cond c x y=>match Az c,OB n an u w x,OB n an u w y with
   |some c,some a,some b=>some (.cond c a b)
   |_,_,_=>none
 | .block id x=>(OB n an u w x).map (.block id)
 | .loop x=>(OB n an u w x).map (.loop (Fh an (JF x)).hdr)
 | .exit id=>some (.exit id)
 | .ret=>some .ret
 |_=>some Qz
noncomputable def Aj4 (an:List JX) (u:List (Nat×List (Nat×Nat))) (w:List (Nat×List (Nat×CG))) (f:Func):Option Il:=
 match f.body with
 |some b=>match OB f.ntmps an u w b,F8 Tryz.prog f.ntmps f.results.toList with
  |some c,some rs=>some ⟨f.params.size+f.nfree,c,rs⟩
  |_,_=>none
 |none=>none
theorem in1:Int.negSucc 0=-1:=rfl
theorem in2:Int.negSucc 999999999999999=-1000000000000000:=rfl
abbrev Cm (n:List JX) (f:Func):={a:Il // QZ Tryz.prog n f=some a}
noncomputable def A8 {n:List JX} {f:Func} (u:List (Nat×List (Nat×Nat)):=[]) (w:List (Nat×List (Nat×CG)):=[]) (x:{a:Il // Aj4 n u w f=some a}:=by refine⟨?a,?h⟩;rotate_left;conv=>lhs;reduce;dsimp only[io,in1,in2]) (h:QZ Tryz.prog n f=some x.1:=by kernel_rfl):Cm n f:=⟨x.1,h⟩
theorem ex {n : List JX} {f : Func} {i : Nat} (x : Cm n f) (h1 : Tryz.prog.funcs[i]? = some f := by kernel_rfl) (h2 : (f.name == "runtime.NumGoroutine") = false := by kernel_rfl) : WB Tryz.prog i (.code x.1) := ⟨f, _, h1, h2, x.2⟩
def nl:Bg→Nat
 | .seq a b=>nl a+nl b
 | .cond _ a b=>nl a+nl b
 | .block _ a=>nl a
 | .loop _ a=>nl a+1
 |_=>0
def Hf:Bg→Nat→List Nat×Bg
 | .seq a b,k=>if k<nl a then Hf a k else Hf b (k-nl a)
 | .cond _ a b,k=>if k<nl a then Hf a k else Hf b (k-nl a)
 | .block _ a,k=>Hf a k
 | .loop h a,k=>if k<nl a then Hf a k else(h,a)
 |_,_=>([],.skip)
end AI
end Go.Proofs.YtjijnamhalgamaaGreatDoor
