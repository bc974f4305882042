/- A function with its compiled form: what the compiler answers, reduced. -/
import Derived.Test.YtceiccjppfapjaaGreatDoorBSe
import Derived.Test.YtceiccjppfapjaaGreatDoorProg
import Derived.KernelRfl
set_option linter.unusedVariables false
set_option maxRecDepth 4000
namespace Go.Proofs.YtceiccjppfapjaaGreatDoor
namespace AI
def r (i:Nat) (l:List Nat):KQ:={id:=i,live:=l}
def rh (i:Nat) (l h:List Nat):KQ:={id:=i,live:=l,hdr:=h}
def ro (i:Nat) (l:List Nat) (o:List (Nat×J5)):KQ:={id:=i,live:=l,ops:=o}
def rd (i n:Nat) (l:List Nat):KQ:={id:=i,head:=some n,live:=l}
def nw (i:Nat):Nat×J5:=(i,.own)
def sh (i:Nat):Nat×J5:=(i,.mode .share)
def ke (i:Nat):Nat×J5:=(i,.mode .keep)
def ow (i:Nat):Nat×J5:=(i,.mode .own)
theorem io (n:Nat):Int.ofNat (no_index (@OfNat.ofNat Nat n (instOfNatNat n)))=(@OfNat.ofNat Int n (@instOfNat n)):=rfl
noncomputable def Aam (ops:Array Oper) (n:Nat) (an:List (Nat×J5)) (w:List (Nat×CZ)):List Oper→Nat→Option (List Ba)
 |[],_=>some []
 |o::os,i=>match(match w.find? (fun p=>p.1==i)with|some p=>some p.2|none=>Sz Tryz.prog o (Adg an i)),JH ops n o.guard,Aam ops n an w os (i+1)with
  |some ao,some g,some r=>some (⟨o.dst,ao,g⟩::r)
  |_,_,_=>none
def tell {α:Type} (l:List (Nat×List α)) (i:Nat):List α:=match l.find? (fun p=>p.1==i)with|some p=>p.2|none=>[]
noncomputable def P5 (n:Nat) (an:List KQ) (u:List (Nat×List (Nat×Nat))) (w:List (Nat×List (Nat×CZ))):Code→Option AZ
 | .skip=>some .skip
 | .region id ops draw=>
   let a:=Gg an id
   match Aam ops n a.ops (tell w id) ops.toList 0 with
   |some os=>if draw then
     let m:=a.head.getD os.length
     if a.par then some (.par m (tell u id) a.MO os a.live a.trunc)
     else if a.mix then some (.mix m a.wob a.pc a.MO os a.live a.trunc)
     else some (.region (some m) a.MO os a.live a.trunc)
    else some (.region none a.MO os a.live a.trunc)
   |none=>some Sj
 | .seq x y=>match P5 n an u w x,P5 n an u w y with
   |some a,some b=>some (.seq a b)
   |_,_=>none
 | .cond c x y=>match AU c,P5 n an u w x,P5 n an u w y with
   |some c,some a,some b=>some (.cond c a b)
   |_,_,_=>none
 | .block id x=>(P5 n an u w x).map (.block id)
 | .loop x=>(P5 n an u w x).map (.loop (Gg an (Ky x)).hdr)
 | .exit id=>some (.exit id)
 | .ret=>some .ret
 |_=>some Sj
noncomputable def Aml (an:List KQ) (u:List (Nat×List (Nat×Nat))) (w:List (Nat×List (Nat×CZ))) (f:Func):Option Jd:=
 match f.body with
 |some b=>match P5 f.ntmps an u w b,G9 Tryz.prog f.ntmps f.results.toList with
  |some c,some rs=>some ⟨f.params.size+f.nfree,c,rs⟩
  |_,_=>none
 |none=>none
theorem in1:Int.negSucc 0=-1:=rfl
theorem in2:Int.negSucc 999999999999999=-1000000000000000:=rfl
abbrev Cm (n:List KQ) (f:Func):={a:Jd // TJ Tryz.prog n f=some a}
noncomputable def AB {n:List KQ} {f:Func} (u:List (Nat×List (Nat×Nat)):=[]) (w:List (Nat×List (Nat×CZ)):=[]) (x:{a:Jd // Aml n u w f=some a}:=by refine⟨?a,?h⟩;rotate_left;conv=>lhs;reduce;dsimp only[io,in1,in2]) (h:TJ Tryz.prog n f=some x.1:=by kernel_rfl):Cm n f:=⟨x.1,h⟩
theorem ex {n : List KQ} {f : Func} {i : Nat} (x : Cm n f) (h1 : Tryz.prog.funcs[i]? = some f := by kernel_rfl) (h2 : (f.name == "runtime.NumGoroutine") = false := by kernel_rfl) : YS Tryz.prog i (.code x.1) := ⟨f, _, h1, h2, x.2⟩
def nl:AZ→Nat
 | .seq a b=>nl a+nl b
 | .cond _ a b=>nl a+nl b
 | .block _ a=>nl a
 | .loop _ a=>nl a+1
 |_=>0
def Ew:AZ→Nat→List Nat×AZ
 | .seq a b,k=>if k<nl a then Ew a k else Ew b (k-nl a)
 | .cond _ a b,k=>if k<nl a then Ew a k else Ew b (k-nl a)
 | .block _ a,k=>Ew a k
 | .loop h a,k=>if k<nl a then Ew a k else(h,a)
 |_,_=>([],.skip)
end AI
end Go.Proofs.YtceiccjppfapjaaGreatDoor
