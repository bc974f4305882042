/- A function with its compiled form: what the compiler answers, reduced. -/
import Derived.Test.YtiimoiecghmebaaDoorFSe
import Derived.Test.YtiimoiecghmebaaDoorProg
import Derived.KernelRfl
set_option linter.unusedVariables false
namespace Go.Proofs.YtiimoiecghmebaaDoor
namespace AI
def r (i:Nat) (l:List Nat):EP:={id:=i,live:=l}
def rh (i:Nat) (l h:List Nat):EP:={id:=i,live:=l,hdr:=h}
def ro (i:Nat) (l:List Nat) (o:List (Nat×FZ)):EP:={id:=i,live:=l,ops:=o}
def rd (i n:Nat) (l:List Nat):EP:={id:=i,head:=some n,live:=l}
def nw (i:Nat):Nat×FZ:=(i,.own)
def sh (i:Nat):Nat×FZ:=(i,.mode .share)
def ke (i:Nat):Nat×FZ:=(i,.mode .keep)
theorem io (n:Nat):Int.ofNat (no_index (@OfNat.ofNat Nat n (instOfNatNat n)))=(@OfNat.ofNat Int n (@instOfNat n)):=rfl
noncomputable def Xd (ops:Array Oper) (n:Nat) (an:List (Nat×FZ)) (w:List (Nat×BN)):List Oper→Nat→Option (List Ap)
 |[],_=>some []
 |o::os,i=>match(match w.find? (fun p=>p.1==i)with|some p=>some p.2|none=>Jd Tryd.prog o (Ru an i)),Ec ops n o.guard,Xd ops n an w os (i+1)with
  |some ao,some g,some r=>some (⟨o.dst,ao,g⟩::r)
  |_,_,_=>none
def tell {α:Type} (l:List (Nat×List α)) (i:Nat):List α:=match l.find? (fun p=>p.1==i)with|some p=>p.2|none=>[]
noncomputable def Nb (n:Nat) (an:List EP) (u:List (Nat×List (Nat×Nat))) (w:List (Nat×List (Nat×BN))):Code→Option AY
 | .skip=>some .skip
 | .region id ops draw=>
   let a:=DZ an id
   match Xd ops n a.ops (tell w id) ops.toList 0 with
   |some os=>if draw then
     let m:=a.head.getD os.length
     if a.par then some (.par m (tell u id) a.JB os a.live a.trunc)
     else if a.mix then some (.mix m a.wob a.pc a.JB os a.live a.trunc)
     else some (.region (some m) a.JB os a.live a.trunc)
    else some (.region none a.JB os a.live a.trunc)
   |none=>some KH
 | .seq x y=>match Nb n an u w x,Nb n an u w y with
   |some a,some b=>some (.seq a b)
   |_,_=>none
 | .cond c x y=>match Ai c,Nb n an u w x,Nb n an u w y with
   |some c,some a,some b=>some (.cond c a b)
   |_,_,_=>none
 | .block id x=>(Nb n an u w x).map (.block id)
 | .loop x=>(Nb n an u w x).map (.loop (DZ an (IZ x)).hdr)
 | .exit id=>some (.exit id)
 | .ret=>some .ret
 |_=>some KH
noncomputable def Aga (an:List EP) (u:List (Nat×List (Nat×Nat))) (w:List (Nat×List (Nat×BN))) (f:Func):Option FC:=
 match f.body with
 |some b=>match Nb f.ntmps an u w b,F7 Tryd.prog f.ntmps f.results.toList with
  |some c,some rs=>some ⟨f.params.size+f.nfree,c,rs⟩
  |_,_=>none
 |none=>none
theorem in1:Int.negSucc 0=-1:=rfl
theorem in2:Int.negSucc 999999999999999=-1000000000000000:=rfl
abbrev Cm (n:List EP) (f:Func):={a:FC // MJ Tryd.prog n f=some a}
noncomputable def E5 {n:List EP} {f:Func} (u:List (Nat×List (Nat×Nat)):=[]) (w:List (Nat×List (Nat×BN)):=[]) (x:{a:FC // Aga n u w f=some a}:=by refine⟨?a,?h⟩;rotate_left;conv=>lhs;reduce;dsimp only[io,in1,in2]) (h:MJ Tryd.prog n f=some x.1:=by kernel_rfl):Cm n f:=⟨x.1,h⟩
theorem ex {n : List EP} {f : Func} {i : Nat} (x : Cm n f) (h1 : Tryd.prog.funcs[i]? = some f := by kernel_rfl) (h2 : (f.name == "runtime.NumGoroutine") = false := by kernel_rfl) : Vs Tryd.prog i (.code x.1) := ⟨f, _, h1, h2, x.2⟩
def nl:AY→Nat
 | .seq a b=>nl a+nl b
 | .cond _ a b=>nl a+nl b
 | .block _ a=>nl a
 | .loop _ a=>nl a+1
 |_=>0
def lpX:AY→Nat→List Nat×AY
 | .seq a b,k=>if k<nl a then lpX a k else lpX b (k-nl a)
 | .cond _ a b,k=>if k<nl a then lpX a k else lpX b (k-nl a)
 | .block _ a,k=>lpX a k
 | .loop h a,k=>if k<nl a then lpX a k else(h,a)
 |_,_=>([],.skip)
end AI
end Go.Proofs.YtiimoiecghmebaaDoor
