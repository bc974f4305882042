/- A function with its compiled form: what the compiler answers, reduced. -/
import Derived.Test.YtegcpbncohoflaaGreatDoorGSe
import Derived.Test.YtegcpbncohoflaaGreatDoorProg
import Derived.KernelRfl
set_option linter.unusedVariables false
namespace Go.Proofs.YtegcpbncohoflaaGreatDoor
namespace AI
def r (i:Nat) (l:List Nat):Il:={id:=i,live:=l}
def rh (i:Nat) (l h:List Nat):Il:={id:=i,live:=l,hdr:=h}
def ro (i:Nat) (l:List Nat) (o:List (Nat×EX)):Il:={id:=i,live:=l,ops:=o}
def rd (i n:Nat) (l:List Nat):Il:={id:=i,head:=some n,live:=l}
def nw (i:Nat):Nat×EX:=(i,.own)
def sh (i:Nat):Nat×EX:=(i,.mode .share)
def ke (i:Nat):Nat×EX:=(i,.mode .keep)
theorem io (n:Nat):Int.ofNat (no_index (@OfNat.ofNat Nat n (instOfNatNat n)))=(@OfNat.ofNat Int n (@instOfNat n)):=rfl
noncomputable def TD (ops:Array Oper) (n:Nat) (an:List (Nat×EX)) (w:List (Nat×BG)):List Oper→Nat→Option (List Am)
 |[],_=>some []
 |o::os,i=>match(match w.find? (fun p=>p.1==i)with|some p=>some p.2|none=>Ho Tryz.prog o (Oj an i)),DC ops n o.guard,TD ops n an w os (i+1)with
  |some ao,some g,some r=>some (⟨o.dst,ao,g⟩::r)
  |_,_,_=>none
def tell {α:Type} (l:List (Nat×List α)) (i:Nat):List α:=match l.find? (fun p=>p.1==i)with|some p=>p.2|none=>[]
noncomputable def JZ (n:Nat) (an:List Il) (u:List (Nat×List (Nat×Nat))) (w:List (Nat×List (Nat×BG))):Code→Option C9
 | .skip=>some .skip
 | .region id ops draw=>
   let a:=Du an id
   match TD ops n a.ops (tell w id) ops.toList 0 with
   |some os=>if draw then
     let m:=a.head.getD os.length
     if a.par then some (.par m (tell u id) a.H8 os a.live a.trunc)
     else if a.mix then some (.mix m a.YX a.pc a.H8 os a.live a.trunc)
     else some (.region (some m) a.H8 os a.live a.trunc)
    else some (.region none a.H8 os a.live a.trunc)
   |none=>some Jg
 | .seq x y=>match JZ n an u w x,JZ n an u w y with
   |some a,some b=>some (.seq a b)
   |_,_=>none
 | .cond c x y=>match Ak c,JZ n an u w x,JZ n an u w y with
   |some c,some a,some b=>some (.cond c a b)
   |_,_,_=>none
 | .block id x=>(JZ n an u w x).map (.block id)
 | .loop x=>(JZ n an u w x).map (.loop (Du an (G5 x)).hdr)
 | .exit id=>some (.exit id)
 | .ret=>some .ret
 |_=>some Jg
noncomputable def Aa8 (an:List Il) (u:List (Nat×List (Nat×Nat))) (w:List (Nat×List (Nat×BG))) (f:Func):Option FQ:=
 match f.body with
 |some b=>match JZ f.ntmps an u w b,Gg Tryz.prog f.ntmps f.results.toList with
  |some c,some rs=>some ⟨f.params.size+f.nfree,c,rs⟩
  |_,_=>none
 |none=>none
theorem in1:Int.negSucc 0=-1:=rfl
theorem in2:Int.negSucc 999999999999999=-1000000000000000:=rfl
abbrev Cm (n:List Il) (f:Func):={a:FQ // MR Tryz.prog n f=some a}
noncomputable def Ce {n:List Il} {f:Func} (u:List (Nat×List (Nat×Nat)):=[]) (w:List (Nat×List (Nat×BG)):=[]) (x:{a:FQ // Aa8 n u w f=some a}:=by refine⟨?a,?h⟩;rotate_left;conv=>lhs;reduce;dsimp only[io,in1,in2]) (h:MR Tryz.prog n f=some x.1:=by kernel_rfl):Cm n f:=⟨x.1,h⟩
theorem ex {n : List Il} {f : Func} {i : Nat} (x : Cm n f) (h1 : Tryz.prog.funcs[i]? = some f := by kernel_rfl) (h2 : (f.name == "runtime.NumGoroutine") = false := by kernel_rfl) : QU Tryz.prog i (.code x.1) := ⟨f, _, h1, h2, x.2⟩
def nl:C9→Nat
 | .seq a b=>nl a+nl b
 | .cond _ a b=>nl a+nl b
 | .block _ a=>nl a
 | .loop _ a=>nl a+1
 |_=>0
def Z8:C9→Nat→List Nat×C9
 | .seq a b,k=>if k<nl a then Z8 a k else Z8 b (k-nl a)
 | .cond _ a b,k=>if k<nl a then Z8 a k else Z8 b (k-nl a)
 | .block _ a,k=>Z8 a k
 | .loop h a,k=>if k<nl a then Z8 a k else(h,a)
 |_,_=>([],.skip)
end AI
end Go.Proofs.YtegcpbncohoflaaGreatDoor
