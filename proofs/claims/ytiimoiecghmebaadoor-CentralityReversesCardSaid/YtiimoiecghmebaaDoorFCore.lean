/- The abstract interpreter: values without a heap, operations, the evaluator and its weakest-precondition form. Program-independent. -/
import GoSem.Dispatch
import Derived.KernelRfl
namespace Go.Proofs.YtiimoiecghmebaaDoor
namespace AI
inductive AV where
 |bool (b:Bool)
 |int (k:IntKind) (n:Int)
 |str (s:List UInt8)
 |sl (nn:Bool) (xs:List AV)
 |zc
 |own (o g off len:Nat)
 |agg (cs:List AV)
 |Dy (cs:List AV)
 |ref (o g i off:Nat)
 |CS (cs:List AV)
 |fn (f:Nat) (caps:List AV)
 |map (o g:Nat)
 |fmap (ents:List (AV×AV))
 |iface (t:Nat) (v:AV)
 |IL
 |Cj
 |ET
 |Gl
 |undef
 |junk
 deriving Inhabited
def AV.cells:AV→List AV
 | .agg cs=>cs
 |v=>[v]
def AV.one:AV→Bool
 | .agg _| .Dy _| .undef| .junk=>false
 |_=>true
def AV.storable:AV→Bool
 | .Dy _| .undef| .junk=>false
 |_=>true
mutual
def AV.closed:AV→Bool
 | .own .. | .ref .. | .map ..=>false
 | .agg cs=>DU cs
 | .Dy cs=>DU cs
 | .fn _ cs=>DU cs
 | .iface _ v=>v.closed
 |_=>true
def DU:List AV→Bool
 |[]=>true
 |v::vs=>v.closed&&DU vs
end
mutual
def AV.scalar:AV→Bool
 | .bool _| .int .. | .str _| .IL| .Cj| .ET| .Gl| .undef=>true
 | .sl false []=>true
 | .agg cs=>JC cs
 | .Dy cs=>JC cs
 |_=>false
def JC:List AV→Bool
 |[]=>true
 |v::vs=>v.scalar&&JC vs
end
inductive Obj where
 |arr (g es:Nat) (nn cl:Bool) (elems:List AV)
 |mp (g:Nat) (cl:Bool) (ents:List (AV×AV))
 |raw (g:Nat) (x:Go.Obj)
 |dead
 deriving Inhabited
structure Ag where
 σ:List Obj
 ctr:Nat
 deriving Inhabited
abbrev Env:=List (Nat×AV)
def Env.get:Env→Nat→AV
 |[],_=>.junk
 |(k,v)::e,n=>bif Nat.beq k n then v else Env.get e n
inductive AO where
 |tmp (t:Nat)
 |cst (v:AV)
 deriving Inhabited
def AO.val (e:Env):AO→AV
 | .tmp t=>e.get t
 | .cst v=>v
def vals (e:Env):List AO→List AV
 |[]=>[]
 |x::xs=>x.val e::vals e xs
def nth {α:Type}:List α→Nat→Option α
 |[],_=>none
 |x::_,0=>some x
 |_::xs,n+1=>nth xs n
inductive Mode where
 |pure|borrow|share|own|keep
 deriving DecidableEq,Repr,Inhabited
inductive IQ where
 |bool|int|str|slice|ptr|func|map
 |flat (ks:List IQ)
 |other
 deriving Inhabited
inductive BN where
 |Yg (x:AO)
 |Jb (es:Nat)
 |JD (off e2 es:Nat) (cs:List AV)
 |pick (c a b:AO)
 |alloc (es:Nat) (z:AV)
 |box (es:Nat) (x:AO)
 |build (z:List AV) (parts:List (Nat×Nat×AO))
 |lit (own:Bool) (es:Nat) (z:AV) (len:Nat) (parts:List (Nat×AO))
 |load (sz:Option Nat) (a:AO)
 |store (sz:Nat) (a x:AO)
 |Pm (x:AO)
 |bin (op:BinOp) (t:IQ) (x y:AO)
 |un (op:UnOp) (x:AO)
 |conv (k:IntKind) (x:AO)
 |convs (x:AO)
 |field (off:Nat) (sz:Option Nat) (x:AO)
 |PZ (off:Nat) (x:AO)
 |Rk (es:Nat) (x i:AO)
 |WT (es n:Nat) (x i:AO)
 |Ym (x i:AO)
 |AbK (es n:Nat) (sz:Option Nat) (x i:AO)
 |slice (es:Nat) (x:AO) (lo hi:Option AO)
 |Rl (x:AO)
 |KC (x:AO) (lo hi:Option AO)
 |len (k:IQ) (x:AO)
 |min (x y:AO)
 |max (x y:AO)
 |append (es bytes:Nat) (s x:AO)
 |Hg (es bytes:Nat) (z:AV) (len cap:AO)
 |NT
 |lookup (t:IQ) (z:AV) (ok:Bool) (m k:AO)
 |mapset (t:IQ) (m k v:AO)
 |delete (t:IQ) (m k:AO)
 |clear (es:Nat) (x:AO)
 |ext (x:AO) (i:Nat)
 |AbL (f:Nat) (caps:List AO)
 |AdT (t:Nat) (x:AO)
 |panic (x:AO)
 |call (m:Mode) (f:Nat) (args:List AO)
 |Gz (m:Mode) (x:AO) (args:List AO)
 deriving Inhabited
structure Ap where
 dst:Option Nat
 op:BN
 guard:Option (Nat×Bool)
 deriving Inhabited
inductive AY where
 |skip
 |region (head:Option Nat) (JB:List Nat) (ops:List Ap) (live:List Nat) (trunc:Option Nat)
 |par (m:Nat) (un:List (Nat×Nat)) (JB:List Nat) (ops:List Ap) (live:List Nat) (trunc:Option Nat)
 |mix (m:Nat) (W pc:List Nat) (JB:List Nat) (ops:List Ap) (live:List Nat) (trunc:Option Nat)
 |seq (a b:AY)
 |cond (c:AO) (a b:AY)
 |block (id:Nat) (a:AY)
 |loop (live:List Nat) (a:AY)
 |exit (id:Nat)
 |ret
 deriving Inhabited
inductive Az where
 |normal
 |exit (id:Nat)
 |ret
 |Ee (v:AV)
 deriving Inhabited
inductive AL where
 |ok (v:AV)
 |Ee (v:AV)
 deriving Inhabited
abbrev Aq:=Nat→List AV→Ag→Option (AL×Ag)
def sub (xs:List AV) (off len:Nat):List AV:=(xs.drop off).take len
mutual
def snap (σ:List Obj):Nat→AV→Option AV
 |0,_=>none
 |n+1,v=>match v with
  | .own o g off len=>match nth σ o with
    |some (.arr g' _ nn cl elems)=>
     if g=g'∧off+len≤elems.length then
          if cl then some (.sl nn (sub elems off len))else(GH σ n (sub elems off len)).map (.sl nn)
     else none
    |_=>none
  | .ref o g i off=>match nth σ o with
    |some (.arr g' _ _ cl elems)=>
     if g=g' then
          match nth elems i with
          |some x=>if cl then some (.CS (x.cells.drop off))else(GH σ n (x.cells.drop off)).map .CS
          |none=>none
     else none
    |_=>none
  | .map o g=>match nth σ o with
    |some (.mp g' _ ents)=>if g=g' then(MI σ n ents).map .fmap else none
    |_=>none
  | .agg cs=>(GH σ n cs).map .agg
  | .Dy cs=>(GH σ n cs).map .Dy
  | .fn f cs=>(GH σ n cs).map (.fn f)
  | .iface t v=>(snap σ n v).map (.iface t)
  |v=>some v
def GH (σ:List Obj):Nat→List AV→Option (List AV)
 |_,[]=>some []
 |0,_::_=>none
 |n+1,v::vs=>match snap σ n v,GH σ n vs with
  |some a,some b=>some (a::b)
  |_,_=>none
def MI (σ:List Obj):Nat→List (AV×AV)→Option (List (AV×AV))
 |_,[]=>some []
 |0,_::_=>none
 |n+1,(k,v)::es=>match snap σ n v,MI σ n es with
  |some a,some b=>if k.closed then some ((k,a)::b)else none
  |_,_=>none
end
def WU:List (AV×AV)→Bool
 |[]=>true
 |(k,_)::es=>k.closed&&WU es
def Dc:Nat:=1000000
def loadCells (cs:List AV):Option Nat→Option AV
 |none=>nth cs 0
 |some n=>if n≤cs.length then some (.agg (cs.take n))else none
def Bg (x:AV) (off:Nat) (y:AV):AV:=
 if off=0∧y.cells.length=x.cells.length then y else .agg (x.cells.take off++y.cells++x.cells.drop (off+y.cells.length))
def Cb:IQ→AV→AV→Option Bool
 | .int,.int k a,.int k' b=>if k=k' then some (a==b)else none
 | .bool,.bool a,.bool b=>some (a==b)
 | .str,.str a,.str b=>some (a==b)
 |_,_,_=>none
def Df:List IQ→List AV→List AV→Option Bool
 |[],[],[]=>some true
 |k::ks,x::xs,y::ys=>match Cb k x y with
  |some true=>Df ks xs ys
  |some false=>some false
  |none=>none
 |_,_,_=>none
def Vg (t:IQ) (x y:AV):Option Bool:=
 match t with
 | .flat ks=>match x,y with
   | .agg xs,.agg ys=>Df ks xs ys
   |_,_=>none
 | .slice=>match x,y with
   | .sl nn _,.sl false []=>some (!nn)
   | .zc,.sl false []=>some false
   | .sl false [],.sl nn _=>some (!nn)
   |_,_=>none
 | .ptr=>match x,y with
   | .IL,.IL=>some true
   | .CS _,.IL=>some false
   | .ref ..,.IL=>some false
   |_,_=>none
 | .func=>match x,y with
   | .ET,.ET=>some true
   | .fn ..,.ET=>some false
   |_,_=>none
 | .map=>match x,y with
   | .Cj,.Cj=>some true
   | .map ..,.Cj=>some false
   |_,_=>none
 |t=>Cb t x y
def Jc (op:BinOp) (k:IntKind) (a b:Int):Option AV:=
 match op with
 | .add=>some (.int k (k.wrap (a+b)))
 | .sub=>some (.int k (k.wrap (a-b)))
 | .mul=>some (.int k (k.wrap (a*b)))
 | .quo=>if b=0 then none else some (.int k (k.wrap (a.tdiv b)))
 | .rem=>if b=0 then none else some (.int k (a.tmod b))
 | .eql=>some (.bool (a==b))
 | .neq=>some (.bool (a != b))
 | .lss=>some (.bool (decide (a<b)))
 | .leq=>some (.bool (decide (a≤b)))
 | .gtr=>some (.bool (decide (a>b)))
 | .geq=>some (.bool (decide (a≥b)))
 | .and=>some (.int k (k.wrap (BitVec.ofInt k.bits a &&& BitVec.ofInt k.bits b).toNat))
 | .or=>some (.int k (k.wrap (BitVec.ofInt k.bits a ||| BitVec.ofInt k.bits b).toNat))
 | .xor=>some (.int k (k.wrap (BitVec.ofInt k.bits a ^^^ BitVec.ofInt k.bits b).toNat))
 | .shl=>if b<0 then none else some (.int k (k.wrap (a*2 ^ (min b.toNat k.bits))))
 | .shr=>if b<0 then none else some (.int k (a.fdiv (2 ^ (min b.toNat k.bits))))
 |_=>none
def Yn (op:BinOp) (a b:List UInt8):Option AV:=
 match op with
 | .eql=>some (.bool (a==b))
 | .neq=>some (.bool !(a==b))
 | .lss=>some (.bool (Op.bytesLess a b))
 | .leq=>some (.bool (Op.bytesLess a b||a==b))
 | .gtr=>some (.bool !(Op.bytesLess a b||a==b))
 | .geq=>some (.bool !(Op.bytesLess a b))
 | .add=>if a.length+b.length<2 ^ 63 then some (.str (a++b))else none
 |_=>none
def bin (op:BinOp) (t:IQ) (x y:AV):Option AV:=
 match x,y with
 | .int k a,.int k' b=>if k=k' then Jc op k a b else match op with
   | .shl=>Jc .shl k a b
   | .shr=>Jc .shr k a b
   |_=>none
 | .str a,.str b=>Yn op a b
 |x,y=>match op with
  | .eql=>(Vg t x y).map .bool
  | .neq=>(Vg t x y).map fun b=>.bool !b
  |_=>none
def findKey (t:IQ) (k:AV):List (AV×AV)→Nat→Option (Option (Nat×AV))
 |[],_=>some none
 |(k',v)::es,i=>match Cb t k k' with
  |some true=>some (some (i,v))
  |some false=>findKey t k es (i+1)
  |none=>none
def IW:IQ→AV→Bool
 | .int,.int .. | .str,.str _| .bool,.bool _=>true
 |_,_=>false
def DV:List AV→List (Nat×Nat×AV)→Option (List AV)
 |z,[]=>some z
 |z,(off,sz,v)::ps=>
  if v.storable&&v.cells.length==sz&&off+sz≤z.length then
   DV (z.take off++v.cells++z.drop (off+sz)) ps
  else none
def Bo (z:AV):Nat→List (Nat×AV)→Nat→List AV
 |0,_,_=>[]
 |n+1,[],i=>z::Bo z n [] (i+1)
 |n+1,(j,v)::ps,i=>bif Nat.beq i j then v::Bo z n ps (i+1)else z::Bo z n ((j,v)::ps) (i+1)
def Rn (es:Nat) (len:Nat):List (Nat×AV)→Nat→Bool
 |[],_=>true
 |(j,v)::ps,i=>i≤j&&j<len&&v.storable&&v.cells.length==es&&Rn es len ps (j+1)
def JE (e:Env):List (Nat×Nat×AO)→List (Nat×Nat×AV)
 |[]=>[]
 |(o,s,x)::ps=>(o,s,x.val e)::JE e ps
def Pn (e:Env):List (Nat×AO)→List (Nat×AV)
 |[]=>[]
 |(j,x)::ps=>(j,x.val e)::Pn e ps
def Hl:List (Nat×AV)→Bool
 |[]=>true
 |(_,v)::ps=>v.closed&&Hl ps
def elemsOf (s:Ag) (es:Nat):AV→Option (List AV×Bool)
 | .sl _ xs=>some (xs,true)
 | .zc=>some ([],true)
 | .own o g off len=>match nth s.σ o with
   |some (.arr g' es' _ cl elems)=>if g=g'∧es=es'∧off+len≤elems.length then some (sub elems off len,cl)else none
   |_=>none
 |_=>none
def Bq (es:Nat) (xs:List AV):Prop:=∀x∈xs,x.cells.length=es
instance (es:Nat) (xs:List AV):Decidable (Bq es xs):=by unfold Bq;infer_instance
def roomy (bytes n:Nat):Prop:=n*bytes≤2 ^ 47
instance (b n:Nat):Decidable (roomy b n):=by unfold roomy;infer_instance
def push (s:Ag) (o:Obj):Ag:=⟨s.σ++[o],s.ctr+1⟩
def FX (es bytes:Nat) (s:Ag) (a:AV) (ys:List AV) (cl:Bool):Option (AV×Ag):=
 match a with
 | .sl false []=>if Bq es ys∧roomy bytes ys.length then some (.own s.σ.length s.ctr 0 ys.length,push s (.arr s.ctr es (!ys.isEmpty) cl ys))else none
 | .zc=>if Bq es ys∧roomy bytes ys.length then some (.own s.σ.length s.ctr 0 ys.length,push s (.arr s.ctr es true cl ys))else none
 | .own o g 0 len=>match nth s.σ o with
   |some (.arr g' es' nn cl' elems)=>
    if g=g'∧es=es'∧len≤elems.length∧Bq es ys∧roomy bytes (len+ys.length)then
     some (.own o s.ctr 0 (len+ys.length),⟨s.σ.set o (.arr s.ctr es (nn||!ys.isEmpty) (cl'&&cl) (elems.take len++ys)),s.ctr+1⟩)
    else none
   |_=>none
 |_=>none
def bound (x:AV):Option Nat:=match x with
 | .int _ n=>if 0≤n then some n.toNat else none
 |_=>none
def bounds (env:Env) (len:Nat) (lo hi:Option AO):Option (Nat×Nat):=
 match(match hi with|none=>some len|some x=>bound (x.val env)),(match lo with|none=>some 0|some x=>bound (x.val env))with
 |some h,some l=>if l≤h∧h≤len then some (l,h)else none
 |_,_=>none
def Ce (C:Aq) (f:Nat) (args:List AV):Option AV:=
 match C f args ⟨[],0⟩with
 |some (.ok r,s')=>snap s'.σ Dc r
 |_=>none
def compact (base:Nat) (r:AV) (s:Ag):Option (AV×Ag):=
 match r with
 | .own o g off len=>if o<base then some (r,⟨s.σ.take base,s.ctr⟩)else
    match nth s.σ o with
    |some ob=>some (.own base g off len,⟨s.σ.take base++[ob],s.ctr⟩)
    |none=>none
 |r=>if r.closed then some (r,⟨s.σ.take base,s.ctr⟩)else some (r,s)
def AZ (C:Aq) (m:Mode) (f:Nat) (args:List AV) (s:Ag):Option (AL×Ag):=
 match m with
 | .pure=>if DU args then(Ce C f args).map fun r=>(.ok r,s)else none
 | .borrow=>match GH s.σ Dc args with
   |some args'=>match Ce C f args' with
    |some r=>if r.scalar then some (.ok r,s)else none
    |none=>none
   |none=>none
 | .own=>if DU args then
    match C f args ⟨[],0⟩with
    |some (.ok (.own o g off len),s')=>match nth s'.σ o with
     |some (.arr g' es nn cl elems)=>if g=g'∧off=0∧cl=true∧len=elems.length then some (.ok (.own s.σ.length s.ctr 0 len),push s (.arr s.ctr es nn cl elems))else none
     |_=>none
    |some (.ok (.sl false []),_)=>some (.ok (.own s.σ.length s.ctr 0 0),push s (.arr s.ctr 1 false true []))
    |_=>none
   else none
 | .share=>match C f args s with
   |some (.ok r,s')=>(compact s.σ.length r s').map fun(r,s)=>(.ok r,s)
   |some (.Ee v,s')=>if v.closed then some (.Ee v,⟨s'.σ.take s.σ.length,s'.ctr⟩)else none
   |none=>none
 | .keep=>C f args s
def ok (s:Ag) (v:Option AV):Option (AL×Ag):=v.map fun v=>(.ok v,s)
def Ae (C:Aq) (o:BN) (env:Env) (s:Ag):Option (AL×Ag):=
 match o with
 | .Yg x=>some (.ok (x.val env),s)
 | .Jb es=>some (.ok (.own s.σ.length s.ctr 0 0),push s (.arr s.ctr es false true []))
 | .JD off e2 es cs=>match nth cs off with
   |some (.sl false [])=>if 0<e2 then some (.ok (.ref (s.σ.length+1) (s.ctr+1) 0 0),push (push s (.arr s.ctr e2 false true [])) (.arr (s.ctr+1) es true (AV.agg (cs.set off (.own s.σ.length s.ctr 0 0))).closed [.agg (cs.set off (.own s.σ.length s.ctr 0 0))]))else none
   |_=>none
 | .pick c a b=>match c.val env with
   | .bool true=>some (.ok (a.val env),s)
   | .bool false=>some (.ok (b.val env),s)
   |_=>none
 | .alloc es z=>some (.ok (.ref s.σ.length s.ctr 0 0),push s (.arr s.ctr es true z.closed [z]))
 | .box es x=>let v:=x.val env
   if v.storable&&v.cells.length==es then some (.ok (.ref s.σ.length s.ctr 0 0),push s (.arr s.ctr es true v.closed [v]))else none
 | .build z parts=>(DV z (JE env parts)).map fun cs=>(.ok (.agg cs),s)
 | .lit own es z len parts=>
   let ps:=Pn env parts
   if Rn es len ps 0 then
    if own then some (.ok (.own s.σ.length s.ctr 0 len),push s (.arr s.ctr es true (Hl ps) (Bo z len ps 0)))
    else if len=0 then some (.ok .zc,s)
    else if Hl ps then some (.ok (.sl true (Bo z len ps 0)),s)else none
   else none
 | .load sz a=>match a.val env with
   | .CS cs=>ok s (loadCells cs sz)
   | .ref o g i off=>match nth s.σ o with
     |some (.arr g' _ _ _ elems)=>if g=g' then match nth elems i with
         |some x=>ok s (loadCells (x.cells.drop off) sz)
         |none=>none
      else none
     |_=>none
   |_=>none
 | .store sz a x=>match a.val env with
   | .ref o g i off=>match nth s.σ o with
     |some (.arr g' es nn cl elems)=>if g=g' then match nth elems i with
          |some y=>
           let v:=x.val env
           if v.storable&&v.cells.length==sz&&off+sz≤es then
            some (.ok .undef,⟨s.σ.set o (.arr g' es nn (cl&&v.closed) (elems.set i (Bg y off v))),s.ctr⟩)
           else none
          |none=>none
      else none
     |_=>none
   |_=>none
 | .Pm x=>match x.val env with
   | .ref o g i off=>some (.ok (.ref o g i off),s)
   | .CS cs=>some (.ok (.CS cs),s)
   | .fn f cs=>some (.ok (.fn f cs),s)
   |_=>none
 | .bin op t x y=>ok s (bin op t (x.val env) (y.val env))
 | .un op x=>match op,x.val env with
   | .not,.bool b=>some (.ok (.bool !b),s)
   | .neg,.int k n=>some (.ok (.int k (k.wrap (0-n))),s)
   |_,_=>none
 | .conv k x=>match x.val env with
   | .int _ n=>some (.ok (.int k (k.wrap n)),s)
   |_=>none
 | .convs x=>match x.val env with
   | .str b=>some (.ok (.str b),s)
   |_=>none
 | .field off sz x=>match x.val env with
   | .agg cs=>ok s (loadCells (cs.drop off) sz)
   |_=>none
 | .PZ off x=>match x.val env with
   | .CS cs=>some (.ok (.CS (cs.drop off)),s)
   | .ref o g i off'=>some (.ok (.ref o g i (off'+off)),s)
   |_=>none
 | .Rk es x i=>match x.val env,i.val env with
   | .sl _ xs,.int _ i=>if 0≤i then match nth xs i.toNat with
      |some v=>if v.cells.length=es then some (.ok (.CS v.cells),s)else none
      |none=>none
     else none
   | .own o g off len,.int _ i=>match nth s.σ o with
     |some (.arr g' es' _ _ _)=>if g=g'∧es=es'∧0≤i∧i<len then some (.ok (.ref o g (off+i.toNat) 0),s)else none
     |_=>none
   |_,_=>none
 | .WT es n x i=>match x.val env,i.val env with
   | .CS cs,.int _ i=>if 0≤i∧i<n then some (.ok (.CS (cs.drop (i.toNat*es))),s)else none
   | .ref o g j off,.int _ i=>if 0≤i∧i<n then some (.ok (.ref o g j (off+i.toNat*es)),s)else none
   |_,_=>none
 | .Ym x i=>match x.val env,i.val env with
   | .str bs,.int _ i=>if 0≤i then match nth bs i.toNat with
      |some b=>some (.ok (.int .u8 b.toNat),s)
      |none=>none
     else none
   |_,_=>none
 | .AbK es n sz x i=>match x.val env,i.val env with
   | .agg cs,.int _ i=>if 0≤i∧i<n then ok s (loadCells (cs.drop (i.toNat*es)) sz)else none
   |_,_=>none
 | .slice es x lo hi=>match x.val env with
   | .sl nn xs=>match bounds env xs.length lo hi with
     |some (l,h)=>if Bq es xs then some (.ok (.sl nn (sub xs l (h-l))),s)else none
     |none=>none
   | .zc=>match bounds env 0 lo hi with
     |some _=>some (.ok .zc,s)
     |none=>none
   | .own o g off len=>match nth s.σ o with
     |some (.arr g' es' _ _ _)=>if g=g'∧es=es' then match bounds env len lo hi with
          |some (l,h)=>some (.ok (.own o g (off+l) (h-l)),s)
          |none=>none
      else none
     |_=>none
   |_=>none
 | .Rl x=>match x.val env with
   | .sl true _=>some (.ok .zc,s)
   | .sl false _=>some (.ok (.sl false []),s)
   | .zc=>some (.ok .zc,s)
   | .own o g 0 _=>match nth s.σ o with
     |some (.arr g' _ nn _ _)=>if g=g' then if nn then some (.ok .zc,s)else some (.ok (.sl false []),s)else none
     |_=>none
   |_=>none
 | .KC x lo hi=>match x.val env with
   | .str bs=>match bounds env bs.length lo hi with
     |some (l,h)=>some (.ok (.str ((bs.drop l).take (h-l))),s)
     |none=>none
   |_=>none
 | .len k x=>match k,x.val env with
   | .slice,.sl _ xs=>some (.ok (.int .i64 xs.length),s)
   | .slice,.zc=>some (.ok (.int .i64 0),s)
   | .slice,.own _ _ _ n=>some (.ok (.int .i64 n),s)
   | .str,.str bs=>some (.ok (.int .i64 bs.length),s)
   | .map,.Cj=>some (.ok (.int .i64 0),s)
   | .map,.map o g=>match nth s.σ o with
     |some (.mp g' _ ents)=>if g=g' then some (.ok (.int .i64 ents.length),s)else none
     |_=>none
   | .map,.fmap ents=>some (.ok (.int .i64 ents.length),s)
   | .func,.sl false []=>some (.ok (.int .i64 0),s)
   |_,_=>none
 | .min x y=>match x.val env,y.val env with
   | .int k a,.int _ b=>some (.ok (.int k (if b<a then b else a)),s)
   |_,_=>none
 | .max x y=>match x.val env,y.val env with
   | .int k a,.int _ b=>some (.ok (.int k (if b>a then b else a)),s)
   |_,_=>none
 | .append es bytes a x=>match elemsOf s es (x.val env)with
   |some (ys,cl)=>(FX es bytes s (a.val env) ys cl).map fun(v,s)=>(.ok v,s)
   |none=>none
 | .Hg es bytes z len cap=>match len.val env,cap.val env with
   | .int _ l,.int _ c=>if 0≤l∧l≤c∧roomy bytes c.toNat then
      some (.ok (.own s.σ.length s.ctr 0 l.toNat),push s (.arr s.ctr es true z.closed (List.replicate l.toNat z)))
     else none
   |_,_=>none
 | .NT=>some (.ok (.map s.σ.length s.ctr),push s (.mp s.ctr true []))
 | .lookup t z QH m k=>match(match m.val env with
    | .Cj=>if IW t (k.val env)then some none else none
    | .map o g=>match nth s.σ o with
      |some (.mp g' _ ents)=>if g=g'∧IW t (k.val env)then findKey t (k.val env) ents 0 else none
      |_=>none
    | .fmap ents=>if IW t (k.val env)then findKey t (k.val env) ents 0 else none
    |_=>none)with
   |some r=>
    let v:=match r with|some (_,v)=>v|none=>z
    some (.ok (if QH then .Dy [v,.bool r.isSome]else v),s)
   |none=>none
 | .mapset t m k v=>match m.val env with
   | .map o g=>match nth s.σ o with
     |some (.mp g' cl ents)=>if g=g'∧IW t (k.val env)∧(v.val env).storable then
          match findKey t (k.val env) ents 0 with
          |some (some (i,_))=>some (.ok .undef,⟨s.σ.set o (.mp g' (cl&&(v.val env).closed) (ents.set i (k.val env,v.val env))),s.ctr⟩)
          |some none=>some (.ok .undef,⟨s.σ.set o (.mp g' (cl&&(v.val env).closed) (ents++[(k.val env,v.val env)])),s.ctr⟩)
          |none=>none
      else none
     |_=>none
   |_=>none
 | .delete t m k=>match m.val env with
   | .map o g=>match nth s.σ o with
     |some (.mp g' cl ents)=>if g=g'∧IW t (k.val env)then
          match findKey t (k.val env) ents 0 with
          |some (some (i,_))=>some (.ok .undef,⟨s.σ.set o (.mp g' cl (ents.eraseIdx i)),s.ctr⟩)
          |some none=>some (.ok .undef,s)
          |none=>none
      else none
     |_=>none
   |_=>none
 | .clear es x=>match x.val env with
   | .own o g off len=>match nth s.σ o with
     |some (.arr g' es' nn cl elems)=>if g=g'∧es=es'∧off+len≤elems.length then
          some (.ok .undef,⟨s.σ.set o (.arr g' es' nn cl (if len=0 then elems else elems.take off)),s.ctr⟩)
      else none
     |_=>none
   |_=>none
 | .ext x i=>match x.val env with
   | .Dy cs=>ok s (nth cs i)
   |_=>none
 | .AbL f caps=>some (.ok (.fn f (vals env caps)),s)
 | .AdT t x=>let v:=x.val env
   if v.storable then some (.ok (.iface t v),s)else none
 | .panic x=>match x.val env with
   | .iface t v=>some (.Ee (.iface t v),s)
   |_=>none
 | .call m f args=>AZ C m f (vals env args) s
 | .Gz m x args=>match x.val env with
   | .fn f caps=>AZ C m f (vals env args++caps) s
   |_=>none
def put (d:Option Nat) (v:AV) (env:Env):Env:=match d with
 |some t=>(t,v)::env
 |none=>env
def wanted (g:Option (Nat×Bool)) (env:Env):Option Bool:=match g with
 |none=>some true
 |some (t,b)=>match env.get t with
  | .bool b'=>some (b'==b)
  | .undef=>some false
  |_=>none
def CX (C:Aq):List Ap→Env→Ag→Option (Az×Env×Ag)
 |[],env,s=>some (.normal,env,s)
 |o::os,env,s=>match wanted o.guard env with
  |none=>none
  |some false=>CX C os (put o.dst .undef env) s
  |some true=>match Ae C o.op env s with
   |some (.ok v,s')=>CX C os (put o.dst v env) s'
   |some (.Ee v,s')=>some (.Ee v,env,s')
   |none=>none
def LH:List AV→Nat→Option (Nat×Nat×Nat×Nat×Nat)
 |[],_=>none
 | .own o g off len::_,k=>some (k,o,g,off,len)
 |_::cs,k=>LH cs (k+1)
def Fz:List Nat→Env→Ag→Option (Env×Ag)
 |[],env,s=>some (env,s)
 |t::ts,env,s=>match env.get t with
  | .own o g off len=>match nth s.σ o with
    |some (.arr g' _ nn true elems)=>if g=g'∧off+len≤elems.length then Fz ts ((t,.sl nn (sub elems off len))::env) ⟨s.σ.set o .dead,s.ctr⟩else none
    |_=>none
  | .ref o g i off=>match nth s.σ o with
    |some (.arr g' _ _ true elems)=>if g=g' then match nth elems i with
         |some x=>Fz ts ((t,.CS (x.cells.drop off))::env) ⟨s.σ.set o .dead,s.ctr⟩
         |none=>none
     else none
    |some (.arr g' _ _ false [x])=>match LH x.cells 0 with
     |some (k,o2,g2,a2,n2)=>match nth s.σ o2 with
      |some (.arr g3 _ nn3 true Ik)=>if g=g'∧i=0∧off=0∧g2=g3∧o2≠o∧a2+n2≤Ik.length∧DU (x.cells.set k (.sl nn3 (sub Ik a2 n2)))=true then Fz ts ((t,.CS (x.cells.set k (.sl nn3 (sub Ik a2 n2))))::env) ⟨(s.σ.set o2 .dead).set o .dead,s.ctr⟩else none
      |_=>none
     |none=>none
    |_=>none
  | .map o g=>match nth s.σ o with
    |some (.mp g' true ents)=>if g=g'∧WU ents=true then Fz ts ((t,.fmap ents)::env) ⟨s.σ.set o .dead,s.ctr⟩else none
    |_=>none
  | .sl nn xs=>Fz ts ((t,.sl nn xs)::env) s
  | .zc=>Fz ts ((t,.zc)::env) s
  |_=>none
def commit (env:Env):List Nat→Env
 |[]=>[]
 |t::ts=>(t,env.get t)::commit env ts
def kept (k len:Nat):Nat:=bif Nat.blt k 1000 then k else len-(k-1000)
def truncate (t:Option Nat) (s:Ag):Ag:=match t with
 |none=>s
 |some k=>⟨s.σ.take (kept k s.σ.length),s.ctr⟩
def iter (f:Env→Ag→Option (Az×Env×Ag)):Nat→Env→Ag→Option (Az×Env×Ag)
 |0,_,_=>none
 |n+1,env,s=>match f env s with
  |some (.normal,env',s')=>iter f n env' s'
  |r=>r
inductive Cls where
 |e|r|w|a
 deriving DecidableEq
def BN.cls:BN→Option Cls
 | .Yg _| .pick .. | .build .. | .bin .. | .un .. | .conv .. | .convs _| .field .. | .PZ .. | .WT .. | .Ym .. | .AbK .. | .KC .. | .min .. | .max .. | .ext .. | .AbL .. | .AdT .. | .Pm _=>some .e
 | .load .. | .Rk .. | .slice .. | .Rl _| .len .. | .lookup ..=>some .r
 | .store .. | .mapset .. | .delete .. | .clear ..=>some .w
 | .Jb _| .alloc .. | .box .. | .Hg .. | .NT| .append ..=>some .a
 | .lit own ..=>some (bif own then .a else .e)
 | .call m ..=>match m with
   | .pure=>some .e
   | .own=>some .a
   |_=>none
 | .Gz m ..=>match m with
   | .pure=>some .e
   | .own=>some .a
   |_=>none
 | .panic _| .JD ..=>none
def AV.obj:AV→List Nat
 | .own o _ _ _=>[o]
 | .ref o _ _ _=>[o]
 | .map o _=>[o]
 |_=>[]
def WV:Option AO→List AO
 |some x=>[x]
 |none=>[]
def BN.Bl:BN→List AO
 | .Yg x| .box _ x| .load _ x| .Pm x| .un _ x| .conv _ x| .convs x| .field _ _ x| .PZ _ x| .Rl x| .len _ x| .ext x _| .AdT _ x| .panic x| .clear _ x=>[x]
 | .Jb _| .alloc .. | .JD .. | .NT=>[]
 | .pick c a b=>[c,a,b]
 | .build _ ps=>ps.map fun(_,_,x)=>x
 | .lit _ _ _ _ ps=>ps.map fun(_,x)=>x
 | .store _ a x| .bin _ _ a x| .Rk _ a x| .WT _ _ a x| .Ym a x| .AbK _ _ _ a x| .min a x| .max a x| .append _ _ a x| .Hg _ _ _ a x| .lookup _ _ _ a x| .delete _ a x=>[a,x]
 | .slice _ x lo hi| .KC x lo hi=>x::(WV lo++WV hi)
 | .mapset _ m k v=>[m,k,v]
 | .AbL _ xs| .call _ _ xs=>xs
 | .Gz _ x xs=>x::xs
def Dh (env:Env):List AO→List Nat
 |[]=>[]
 |x::xs=>(x.val env).obj++Dh env xs
def BN.reads (o:BN) (r:Nat) (env:Env):List Nat:=match o.cls with
 |some .r|some .w=>Dh env o.Bl
 |some .a=>r::Dh env o.Bl
 |_=>[]
def BN.writes (o:BN) (r:Nat) (env:Env):List Nat:=match o with
 | .store _ a _=>(a.val env).obj
 | .mapset _ m _ _=>(m.val env).obj
 | .delete _ m _=>(m.val env).obj
 | .clear _ x=>(x.val env).obj
 | .append _ _ a _=>r::(a.val env).obj
 |o=>match o.cls with
  |some .a=>[r]
  |_=>[]
def AV.moved (t g:Nat):AV→AV
 | .own _ _ off len=>.own t g off len
 | .ref _ _ i off=>.ref t g i off
 | .map _ _=>.map t g
 |v=>v
def Obj.P5 (g:Nat):Obj→Obj
 | .arr _ es nn cl elems=>.arr g es nn cl elems
 | .mp _ cl ents=>.mp g cl ents
 | .raw _ x=>.raw g x
 | .dead=>.dead
def AV.idx:AV→Nat
 | .own o _ _ _=>o
 | .ref o _ _ _=>o
 | .map o _=>o
 |_=>0
def Il (C:Aq) (o:BN) (r g:Nat) (env:Env) (s:Ag):Option (AV×Option (Nat×Obj)×Nat):=
 match o.cls,Ae C o env s with
 |some .e,some (.ok v,_)=>some (v,none,0)
 |some .r,some (.ok v,_)=>some (v,none,0)
 |some .w,some (.ok v,s')=>match o.writes r env with
  |[t]=>match nth s'.σ t with
   |some ob=>some (v,some (t,ob),0)
   |none=>none
  |_=>none
 |some .a,some (.ok v,s')=>match nth s'.σ v.idx with
  |some ob=>if v.idx<s.σ.length then some (v.moved v.idx g,some (v.idx,ob.P5 g),1)
   else match nth s.σ r with
   |some .dead=>some (v.moved r g,some (r,ob.P5 g),1)
   |_=>none
  |none=>none
 |_,_=>none
structure Eff where
 dst:Option Nat
 v:AV
 rd:List Nat
 wr:List Nat
 upd:Option (Nat×Obj)
 bump:Nat
 deriving Inhabited
def Ep (u:Option (Nat×Obj)) (b:Nat) (s:Ag):Ag:=match u with
 |some (t,ob)=>⟨s.σ.set t ob,s.ctr+b⟩
 |none=>⟨s.σ,s.ctr+b⟩
def rank (o:BN):Nat:=match o.cls with
 |some .a=>1
 |_=>0
def G8 (C:Aq):List Ap→Nat→Nat→Env→Ag→Option (List Eff)
 |[],_,_,_,_=>some []
 |o::os,r,g,env,s=>match wanted o.guard env with
  |none=>none
  |some false=>match G8 C os (r+rank o.op) (g+1) (put o.dst .undef env) s with
   |some es=>some (⟨o.dst,.undef,[],[],none,0⟩::es)
   |none=>none
  |some true=>match Il C o.op r g env s with
   |some (v,u,b)=>match G8 C os (r+rank o.op) (g+1) (put o.dst v env) (Ep u b s)with
    |some es=>some (⟨o.dst,v,o.op.reads r env,o.op.writes r env,u,b⟩::es)
    |none=>none
   |none=>none
def MX:List Eff→Env→Env
 |[],env=>env
 |e::es,env=>MX es (put e.dst e.v env)
def KD:List Eff→Ag→Ag
 |[],s=>s
 |e::es,s=>KD es (Ep e.upd e.bump s)
def Dp (x:Nat):List Nat→Bool
 |[]=>false
 |y::ys=>bif Nat.beq x y then true else Dp x ys
def Po:List Nat→List Nat→Bool
 |[],_=>true
 |x::xs,ys=>bif Dp x ys then false else Po xs ys
def WW (a b:Eff):Bool:=Po a.wr b.rd&&(Po a.wr b.wr&&Po a.rd b.wr)
def Jh (es:List Eff):List (Nat×Nat)→Bool
 |[]=>true
 |(i,j)::ps=>match nth es i,nth es j with
  |some a,some b=>WW a b&&Jh es ps
  |_,_=>false
def ranks:List Ap→Nat
 |[]=>0
 |o::os=>rank o.op+ranks os
def KE (C:Aq) (m:Nat) (un:List (Nat×Nat)) (ops:List Ap) (env:Env) (s:Ag):Option (Env×Ag):=
 match G8 C (ops.take m) s.σ.length s.ctr env ⟨s.σ++List.replicate (ranks (ops.take m)) .dead,s.ctr+m⟩with
 |some es=>if Jh es un then some (MX es env,KD es ⟨s.σ++List.replicate (ranks (ops.take m)) .dead,s.ctr+m⟩)else none
 |none=>none
def BN.EM:BN→Bool
 | .Jb _| .alloc .. | .JD .. | .box .. | .store .. | .append .. | .Hg .. | .NT| .mapset .. | .delete .. | .clear .. | .panic _=>false
 | .lit own ..=>!own
 | .call m ..=>m==.pure||m==.borrow
 | .Gz m ..=>m==.pure||m==.borrow
 |_=>true
def flt (o:Ap):Bool:=match o.op.cls with
 |some .e=>o.op.EM
 |_=>false
mutual
def A8:AV→AV→Bool
 | .bool a,.bool b=>decide (a=b)
 | .int k x,.int k' x'=>decide (k=k')&&decide (x=x')
 | .str a,.str b=>decide (a=b)
 | .sl b l,.sl b' l'=>decide (b=b')&&Io l l'
 | .own o g i n,.own o' g' i' n'=>Nat.beq o o'&&Nat.beq g g'&&Nat.beq i i'&&Nat.beq n n'
 | .ref o g i n,.ref o' g' i' n'=>Nat.beq o o'&&Nat.beq g g'&&Nat.beq i i'&&Nat.beq n n'
 | .map o g,.map o' g'=>Nat.beq o o'&&Nat.beq g g'
 | .CS l,.CS l'=>Io l l'
 | .agg l,.agg l'=>Io l l'
 |_,_=>false
def Io:List AV→List AV→Bool
 |[],[]=>true
 |x::l,y::r=>A8 x y&&Io l r
 |_,_=>false
end
def JF (C:Aq) (op:BN) (env:Env) (v:AV):List Ag→Bool
 |[]=>true
 |S::r=>match Ae C op env S with
  |some (.ok u,_)=>A8 u v&&JF C op env v r
  |_=>false
def JG (C:Aq) (S:Ag):List (BN×Env×AV)→Bool
 |[]=>true
 |(op,env,v)::r=>match Ae C op env S with
  |some (.ok u,_)=>A8 u v&&JG C S r
  |_=>false
def DW (C:Aq) (E:List Nat):List Ap→Nat→Env→Ag→Bool
 |[],_,_,_=>true
 |o::os,i,env,s=>if Dp i E then match wanted o.guard env with
   |some true=>match Ae C o.op env s with
    |some (.ok v,_)=>flt o&&DW C E os (i+1) (put o.dst v env) s
    |_=>false
   |some false=>DW C E os (i+1) (put o.dst .undef env) s
   |none=>false
  else DW C E os (i+1) env s
def FB (C:Aq) (m:Nat) (W pc:List Nat):List Ap→Nat→Env→Ag→List (BN×Env×AV)→List Ag→Option (Az×Env×Ag)
 |[],_,env,s,_,_=>some (.normal,env,s)
 |o::os,i,env,s,pend,past=>match wanted o.guard env with
  |none=>none
  |some false=>FB C m W pc os (i+1) (put o.dst .undef env) s pend past
  |some true=>match Ae C o.op env s with
   |some (.ok v,s1)=>
    if Dp i W then
          if o.op.EM&&JF C o.op env v past then FB C m W pc os (i+1) (put o.dst v env) s ((o.op,env,v)::pend) past else none
    else if flt o||Nat.blt i m then FB C m W pc os (i+1) (put o.dst v env) s pend past
    else if JG C s1 pend then FB C m W pc os (i+1) (put o.dst v env) s1 pend (s::past)else none
   |some (.Ee v,s1)=>match pc with
    |p::E=>if Nat.beq i p&&!(Dp i W||(flt o||Nat.blt i m))&&DW C E os (i+1) env s then some (.Ee v,[],s1)else none
    |[]=>none
   |none=>none
def EO (C:Aq) (N:Nat):AY→Env→Ag→Option (Az×Env×Ag)
 | .skip,env,s=>some (.normal,env,s)
 | .region _ JB ops live trunc,env,s=>match Fz JB env s with
   |some (env,s)=>match CX C ops env s with
    |some (.normal,env,s)=>some (.normal,commit env live,truncate trunc s)
    |r=>r
   |none=>none
 | .par m un JB ops live trunc,env,s=>match Fz JB env s with
   |some (env,s)=>match KE C m un ops env s with
    |some (env,s)=>match CX C (ops.drop m) env s with
     |some (.normal,env,s)=>some (.normal,commit env live,truncate trunc s)
     |r=>r
    |none=>none
   |none=>none
 | .mix m W pc JB ops live trunc,env,s=>match Fz JB env s with
   |some (env,s)=>match FB C m W pc ops 0 env s [] []with
    |some (.normal,env,s)=>some (.normal,commit env live,truncate trunc s)
    |r=>r
   |none=>none
 | .seq a b,env,s=>match EO C N a env s with
   |some (.normal,env',s')=>EO C N b env' s'
   |r=>r
 | .cond c a b,env,s=>match c.val env with
   | .bool true=>EO C N a env s
   | .bool false=>EO C N b env s
   |_=>none
 | .block id a,env,s=>match EO C N a env s with
   |some (.exit j,env',s')=>if j=id then some (.normal,env',s')else some (.exit j,env',s')
   |r=>r
 | .loop live a,env,s=>iter (fun env s=>EO C N a (commit env live) s) N env s
 | .exit id,env,s=>some (.exit id,env,s)
 | .ret,env,s=>some (.ret,env,s)
inductive Vh where
 |tmp (t:Nat)
 |cell (t:Nat) (sz:Option Nat)
 deriving Inhabited
structure FC where
 np:Nat
 body:AY
 results:List Vh
 deriving Inhabited
structure DFn where
 np:Nat
 AhK:AY
 pre2:AY
 post:AY
 tcl:Nat
 cell:Nat
 tag:Nat
 results:List Vh
 deriving Inhabited
inductive Hf where
 |code (fn:FC)
 |ext (spec:List AV→Ag→Option (AL×Ag))
 |dfr (d:DFn)
def Pq (env:Env) (s:Ag):Vh→Option AV
 | .tmp t=>some (env.get t)
 | .cell t sz=>match env.get t with
   | .ref o g i off=>match nth s.σ o with
     |some (.arr g' _ _ _ elems)=>if g=g' then match nth elems i with
         |some x=>loadCells (x.cells.drop off) sz
         |none=>none
      else none
     |_=>none
   |_=>none
def Fh (env:Env) (s:Ag):List Vh→Option (List AV)
 |[]=>some []
 |r::rs=>match Pq env s r,Fh env s rs with
  |some v,some vs=>some (v::vs)
  |_,_=>none
def EH:List AV→AV
 |[v]=>v
 |vs=>.Dy vs
def params:List AV→Nat→Env
 |[],_=>[]
 |v::vs,i=>(i,v)::params vs (i+1)
def evF (C:Aq) (N:Nat) (fn:FC) (args:List AV) (s:Ag):Option (AL×Ag):=
 match EO C N fn.body (params args 0) s with
 |some (.normal,env,s')=>(Fh env s' fn.results).map fun vs=>(.ok (EH vs),s')
 |some (.ret,env,s')=>(Fh env s' fn.results).map fun vs=>(.ok (EH vs),s')
 |some (.Ee v,_,s')=>some (.Ee v,s')
 |_=>none
def AdW (d:DFn) (env:Env) (s:Ag):Option (AL×Ag):=(Fh env s d.results).map fun vs=>(.ok (EH vs),s)
def Vj (C:Aq) (d:DFn) (c v:AV) (env:Env) (s:Ag):Option (AL×Ag):=match v with
 | .iface t (.int k n)=>if t=d.tag then
    match Ae C (.store 1 (.cst c) (.cst (.int k n))) [] s with
    |some (.ok _,s')=>AdW d env s'
    |_=>none
   else none
 |_=>none
def evD (C:Aq) (N:Nat) (d:DFn) (args:List AV) (s:Ag):Option (AL×Ag):=
 match EO C N (.seq d.AhK d.pre2) (params args 0) s with
 |some (.ret,env,s1)=>AdW d env s1
 |some (.Ee v,_,s1)=>some (.Ee v,s1)
 |some (.normal,env,s1)=>match env.get d.tcl with
  | .junk=>match EO C N d.post env s1 with
    |some (.normal,Di,s2)=>AdW d Di s2
    |some (.ret,Di,s2)=>AdW d Di s2
    |some (.Ee v,Di,s2)=>Vj C d (env.get d.cell) v Di s2
    |_=>none
  |_=>none
 |_=>none
def run (AP:Nat→Option Hf):Nat→Aq
 |0=>fun _ _ _=>none
 |n+1=>fun f args s=>match AP f with
  |some (.code fn)=>if args.length=fn.np then evF (run AP n) n fn args s else none
  |some (.ext sp)=>sp args s
  |some (.dfr d)=>if args.length=d.np then evD (run AP n) n d args s else none
  |none=>none
end AI
end Go.Proofs.YtiimoiecghmebaaDoor
