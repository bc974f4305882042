/- The abstract interpreter: values without a heap, operations, the evaluator and its weakest-precondition form. Program-independent. -/
import GoSem.Dispatch
import Derived.KernelRfl
namespace Go.Proofs.YtchcadfjbkkgmaaGreatDoor
namespace AI
inductive AV where
 |bool (b:Bool)
 |int (k:IntKind) (n:Int)
 |str (s:List UInt8)
 |sl (nn:Bool) (xs:List AV)
 |zc
 |own (o g off len:Nat)
 |agg (cs:List AV)
 |Cb (cs:List AV)
 |ref (o g i off:Nat)
 |CV (cs:List AV)
 |fn (f:Nat) (caps:List AV)
 |map (o g:Nat)
 |fmap (ents:List (AV×AV))
 |iface (t:Nat) (v:AV)
 |JA
 |Dt
 |Gj
 |Ht
 |undef
 |junk
 deriving Inhabited
def AV.cells:AV→List AV
 | .agg cs=>cs
 |v=>[v]
def AV.one:AV→Bool
 | .agg _| .Cb _| .undef| .junk=>false
 |_=>true
def AV.storable:AV→Bool
 | .Cb _| .undef| .junk=>false
 |_=>true
mutual
def AV.closed:AV→Bool
 | .own .. | .ref .. | .map ..=>false
 | .agg cs=>DK cs
 | .Cb cs=>DK cs
 | .fn _ cs=>DK cs
 | .iface _ v=>v.closed
 |_=>true
def DK:List AV→Bool
 |[]=>true
 |v::vs=>v.closed&&DK vs
end
mutual
def AV.scalar:AV→Bool
 | .bool _| .int .. | .str _| .JA| .Dt| .Gj| .Ht| .undef=>true
 | .sl false []=>true
 | .agg cs=>Lj cs
 | .Cb cs=>Lj cs
 |_=>false
def Lj:List AV→Bool
 |[]=>true
 |v::vs=>v.scalar&&Lj vs
end
inductive Obj where
 |arr (g es:Nat) (nn cl:Bool) (elems:List AV)
 |mp (g:Nat) (cl:Bool) (ents:List (AV×AV))
 |raw (g:Nat) (x:Go.Obj)
 |dead
 deriving Inhabited
structure Am where
 σ:List Obj
 ctr:Nat
 deriving Inhabited
abbrev Env:=List (Nat×AV)
def Env.get:Env→Nat→AV
 |[],_=>.junk
 |(k,v)::e,n=>bif Nat.beq k n then v else Env.get e n
inductive AO where
 |tmp (t:Nat)
 |cst (v:AV)
 deriving Inhabited
def AO.val (e:Env):AO→AV
 | .tmp t=>e.get t
 | .cst v=>v
def vals (e:Env):List AO→List AV
 |[]=>[]
 |x::xs=>x.val e::vals e xs
def nth {α:Type}:List α→Nat→Option α
 |[],_=>none
 |x::_,0=>some x
 |_::xs,n+1=>nth xs n
inductive Mode where
 |pure|borrow|share|own|keep
 deriving DecidableEq,Repr,Inhabited
inductive JB where
 |bool|int|str|slice|ptr|func|map
 |flat (ks:List JB)
 |other
 deriving Inhabited
inductive CW where
 |ZM (x:AO)
 |JX (es:Nat)
 |Ll (off e2 es:Nat) (cs:List AV)
 |pick (c a b:AO)
 |alloc (es:Nat) (z:AV)
 |box (es:Nat) (x:AO)
 |build (z:List AV) (parts:List (Nat×Nat×AO))
 |lit (own:Bool) (es:Nat) (z:AV) (len:Nat) (parts:List (Nat×AO))
 |load (sz:Option Nat) (a:AO)
 |store (sz:Nat) (a x:AO)
 |QX (x:AO)
 |bin (op:BinOp) (t:JB) (x y:AO)
 |un (op:UnOp) (x:AO)
 |conv (k:IntKind) (x:AO)
 |convs (x:AO)
 |field (off:Nat) (sz:Option Nat) (x:AO)
 |RG (off:Nat) (x:AO)
 |UA (es:Nat) (x i:AO)
 |YW (es n:Nat) (x i:AO)
 |AaM (x i:AO)
 |Afr (es n:Nat) (sz:Option Nat) (x i:AO)
 |slice (es:Nat) (x:AO) (lo hi:Option AO)
 |UC (x:AO)
 |MR (x:AO) (lo hi:Option AO)
 |len (k:JB) (x:AO)
 |min (x y:AO)
 |max (x y:AO)
 |append (es bytes:Nat) (s x:AO)
 |IU (es bytes:Nat) (z:AV) (len cap:AO)
 |P5
 |lookup (t:JB) (z:AV) (ok:Bool) (m k:AO)
 |mapset (t:JB) (m k v:AO)
 |delete (t:JB) (m k:AO)
 |clear (es:Nat) (x:AO)
 |ext (x:AO) (i:Nat)
 |AeM (f:Nat) (caps:List AO)
 |AhH (t:Nat) (x:AO)
 |panic (x:AO)
 |call (m:Mode) (f:Nat) (args:List AO)
 |Io (m:Mode) (x:AO) (args:List AO)
 deriving Inhabited
structure AU where
 dst:Option Nat
 op:CW
 guard:Option (Nat×Bool)
 deriving Inhabited
inductive Bd where
 |skip
 |region (head:Option Nat) (KG:List Nat) (ops:List AU) (live:List Nat) (trunc:Option Nat)
 |par (m:Nat) (un:List (Nat×Nat)) (KG:List Nat) (ops:List AU) (live:List Nat) (trunc:Option Nat)
 |mix (m:Nat) (W pc:List Nat) (KG:List Nat) (ops:List AU) (live:List Nat) (trunc:Option Nat)
 |seq (a b:Bd)
 |cond (c:AO) (a b:Bd)
 |block (id:Nat) (a:Bd)
 |loop (live:List Nat) (a:Bd)
 |exit (id:Nat)
 |ret
 deriving Inhabited
inductive AZ where
 |normal
 |exit (id:Nat)
 |ret
 |DI (v:AV)
 deriving Inhabited
inductive AX where
 |ok (v:AV)
 |DI (v:AV)
 deriving Inhabited
abbrev AQ:=Nat→List AV→Am→Option (AX×Am)
def sub (xs:List AV) (off len:Nat):List AV:=(xs.drop off).take len
mutual
def snap (σ:List Obj):Nat→AV→Option AV
 |0,_=>none
 |n+1,v=>match v with
  | .own o g off len=>match nth σ o with
    |some (.arr g' _ nn cl elems)=>
     if g=g'∧off+len≤elems.length then
          if cl then some (.sl nn (sub elems off len))else(Gf σ n (sub elems off len)).map (.sl nn)
     else none
    |_=>none
  | .ref o g i off=>match nth σ o with
    |some (.arr g' _ _ cl elems)=>
     if g=g' then
          match nth elems i with
          |some x=>if cl then some (.CV (x.cells.drop off))else(Gf σ n (x.cells.drop off)).map .CV
          |none=>none
     else none
    |_=>none
  | .map o g=>match nth σ o with
    |some (.mp g' _ ents)=>if g=g' then(Oy σ n ents).map .fmap else none
    |_=>none
  | .agg cs=>(Gf σ n cs).map .agg
  | .Cb cs=>(Gf σ n cs).map .Cb
  | .fn f cs=>(Gf σ n cs).map (.fn f)
  | .iface t v=>(snap σ n v).map (.iface t)
  |v=>some v
def Gf (σ:List Obj):Nat→List AV→Option (List AV)
 |_,[]=>some []
 |0,_::_=>none
 |n+1,v::vs=>match snap σ n v,Gf σ n vs with
  |some a,some b=>some (a::b)
  |_,_=>none
def Oy (σ:List Obj):Nat→List (AV×AV)→Option (List (AV×AV))
 |_,[]=>some []
 |0,_::_=>none
 |n+1,(k,v)::es=>match snap σ n v,Oy σ n es with
  |some a,some b=>if k.closed then some ((k,a)::b)else none
  |_,_=>none
end
def YE:List (AV×AV)→Bool
 |[]=>true
 |(k,_)::es=>k.closed&&YE es
def EZ:Nat:=1000000
def loadCells (cs:List AV):Option Nat→Option AV
 |none=>nth cs 0
 |some n=>if n≤cs.length then some (.agg (cs.take n))else none
def BQ (x:AV) (off:Nat) (y:AV):AV:=
 if off=0∧y.cells.length=x.cells.length then y else .agg (x.cells.take off++y.cells++x.cells.drop (off+y.cells.length))
def CX:JB→AV→AV→Option Bool
 | .int,.int k a,.int k' b=>if k=k' then some (a==b)else none
 | .bool,.bool a,.bool b=>some (a==b)
 | .str,.str a,.str b=>some (a==b)
 |_,_,_=>none
def DR:List JB→List AV→List AV→Option Bool
 |[],[],[]=>some true
 |k::ks,x::xs,y::ys=>match CX k x y with
  |some true=>DR ks xs ys
  |some false=>some false
  |none=>none
 |_,_,_=>none
def UD (t:JB) (x y:AV):Option Bool:=
 match t with
 | .flat ks=>match x,y with
   | .agg xs,.agg ys=>DR ks xs ys
   |_,_=>none
 | .slice=>match x,y with
   | .sl nn _,.sl false []=>some (!nn)
   | .zc,.sl false []=>some false
   | .sl false [],.sl nn _=>some (!nn)
   |_,_=>none
 | .ptr=>match x,y with
   | .JA,.JA=>some true
   | .CV _,.JA=>some false
   | .ref ..,.JA=>some false
   |_,_=>none
 | .func=>match x,y with
   | .Gj,.Gj=>some true
   | .fn ..,.Gj=>some false
   |_,_=>none
 | .map=>match x,y with
   | .Dt,.Dt=>some true
   | .map ..,.Dt=>some false
   |_,_=>none
 |t=>CX t x y
def JY (op:BinOp) (k:IntKind) (a b:Int):Option AV:=
 match op with
 | .add=>some (.int k (k.wrap (a+b)))
 | .sub=>some (.int k (k.wrap (a-b)))
 | .mul=>some (.int k (k.wrap (a*b)))
 | .quo=>if b=0 then none else some (.int k (k.wrap (a.tdiv b)))
 | .rem=>if b=0 then none else some (.int k (a.tmod b))
 | .eql=>some (.bool (a==b))
 | .neq=>some (.bool (a != b))
 | .lss=>some (.bool (decide (a<b)))
 | .leq=>some (.bool (decide (a≤b)))
 | .gtr=>some (.bool (decide (a>b)))
 | .geq=>some (.bool (decide (a≥b)))
 | .and=>some (.int k (k.wrap (BitVec.ofInt k.bits a &&& BitVec.ofInt k.bits b).toNat))
 | .or=>some (.int k (k.wrap (BitVec.ofInt k.bits a ||| BitVec.ofInt k.bits b).toNat))
 | .xor=>some (.int k (k.wrap (BitVec.ofInt k.bits a ^^^ BitVec.ofInt k.bits b).toNat))
 | .shl=>if b<0 then none else some (.int k (k.wrap (a*2 ^ (min b.toNat k.bits))))
 | .shr=>if b<0 then none else some (.int k (a.fdiv (2 ^ (min b.toNat k.bits))))
 |_=>none
def AaN (op:BinOp) (a b:List UInt8):Option AV:=
 match op with
 | .eql=>some (.bool (a==b))
 | .neq=>some (.bool !(a==b))
 | .lss=>some (.bool (Op.bytesLess a b))
 | .leq=>some (.bool (Op.bytesLess a b||a==b))
 | .gtr=>some (.bool !(Op.bytesLess a b||a==b))
 | .geq=>some (.bool !(Op.bytesLess a b))
 | .add=>if a.length+b.length<2 ^ 63 then some (.str (a++b))else none
 |_=>none
def bin (op:BinOp) (t:JB) (x y:AV):Option AV:=
 match x,y with
 | .int k a,.int k' b=>if k=k' then JY op k a b else match op with
   | .shl=>JY .shl k a b
   | .shr=>JY .shr k a b
   |_=>none
 | .str a,.str b=>AaN op a b
 |x,y=>match op with
  | .eql=>(UD t x y).map .bool
  | .neq=>(UD t x y).map fun b=>.bool !b
  |_=>none
def findKey (t:JB) (k:AV):List (AV×AV)→Nat→Option (Option (Nat×AV))
 |[],_=>some none
 |(k',v)::es,i=>match CX t k k' with
  |some true=>some (some (i,v))
  |some false=>findKey t k es (i+1)
  |none=>none
def JQ:JB→AV→Bool
 | .int,.int .. | .str,.str _| .bool,.bool _=>true
 |_,_=>false
def EL:List AV→List (Nat×Nat×AV)→Option (List AV)
 |z,[]=>some z
 |z,(off,sz,v)::ps=>
  if v.storable&&v.cells.length==sz&&off+sz≤z.length then
   EL (z.take off++v.cells++z.drop (off+sz)) ps
  else none
def BZ (z:AV):Nat→List (Nat×AV)→Nat→List AV
 |0,_,_=>[]
 |n+1,[],i=>z::BZ z n [] (i+1)
 |n+1,(j,v)::ps,i=>bif Nat.beq i j then v::BZ z n ps (i+1)else z::BZ z n ((j,v)::ps) (i+1)
def UE (es:Nat) (len:Nat):List (Nat×AV)→Nat→Bool
 |[],_=>true
 |(j,v)::ps,i=>i≤j&&j<len&&v.storable&&v.cells.length==es&&UE es len ps (j+1)
def KR (e:Env):List (Nat×Nat×AO)→List (Nat×Nat×AV)
 |[]=>[]
 |(o,s,x)::ps=>(o,s,x.val e)::KR e ps
def QS (e:Env):List (Nat×AO)→List (Nat×AV)
 |[]=>[]
 |(j,x)::ps=>(j,x.val e)::QS e ps
def IQ:List (Nat×AV)→Bool
 |[]=>true
 |(_,v)::ps=>v.closed&&IQ ps
def elemsOf (s:Am) (es:Nat):AV→Option (List AV×Bool)
 | .sl _ xs=>some (xs,true)
 | .zc=>some ([],true)
 | .own o g off len=>match nth s.σ o with
   |some (.arr g' es' _ cl elems)=>if g=g'∧es=es'∧off+len≤elems.length then some (sub elems off len,cl)else none
   |_=>none
 |_=>none
def Bo (es:Nat) (xs:List AV):Prop:=∀x∈xs,x.cells.length=es
instance (es:Nat) (xs:List AV):Decidable (Bo es xs):=by unfold Bo;infer_instance
def roomy (bytes n:Nat):Prop:=n*bytes≤2 ^ 47
instance (b n:Nat):Decidable (roomy b n):=by unfold roomy;infer_instance
def push (s:Am) (o:Obj):Am:=⟨s.σ++[o],s.ctr+1⟩
def Em (es bytes:Nat) (s:Am) (a:AV) (ys:List AV) (cl:Bool):Option (AV×Am):=
 match a with
 | .sl false []=>if Bo es ys∧roomy bytes ys.length then some (.own s.σ.length s.ctr 0 ys.length,push s (.arr s.ctr es (!ys.isEmpty) cl ys))else none
 | .zc=>if Bo es ys∧roomy bytes ys.length then some (.own s.σ.length s.ctr 0 ys.length,push s (.arr s.ctr es true cl ys))else none
 | .own o g 0 len=>match nth s.σ o with
   |some (.arr g' es' nn cl' elems)=>
    if g=g'∧es=es'∧len≤elems.length∧Bo es ys∧roomy bytes (len+ys.length)then
     some (.own o s.ctr 0 (len+ys.length),⟨s.σ.set o (.arr s.ctr es (nn||!ys.isEmpty) (cl'&&cl) (elems.take len++ys)),s.ctr+1⟩)
    else none
   |_=>none
 |_=>none
def bound (x:AV):Option Nat:=match x with
 | .int _ n=>if 0≤n then some n.toNat else none
 |_=>none
def bounds (env:Env) (len:Nat) (lo hi:Option AO):Option (Nat×Nat):=
 match(match hi with|none=>some len|some x=>bound (x.val env)),(match lo with|none=>some 0|some x=>bound (x.val env))with
 |some h,some l=>if l≤h∧h≤len then some (l,h)else none
 |_,_=>none
def Dp (C:AQ) (f:Nat) (args:List AV):Option AV:=
 match C f args ⟨[],0⟩with
 |some (.ok r,s')=>snap s'.σ EZ r
 |_=>none
def compact (base:Nat) (r:AV) (s:Am):Option (AV×Am):=
 match r with
 | .own o g off len=>if o<base then some (r,⟨s.σ.take base,s.ctr⟩)else
    match nth s.σ o with
    |some ob=>some (.own base g off len,⟨s.σ.take base++[ob],s.ctr⟩)
    |none=>none
 |r=>if r.closed then some (r,⟨s.σ.take base,s.ctr⟩)else some (r,s)
def Bf (C:AQ) (m:Mode) (f:Nat) (args:List AV) (s:Am):Option (AX×Am):=
 match m with
 | .pure=>if DK args then(Dp C f args).map fun r=>(.ok r,s)else none
 | .borrow=>match Gf s.σ EZ args with
   |some args'=>match Dp C f args' with
    |some r=>if r.scalar then some (.ok r,s)else none
    |none=>none
   |none=>none
 | .own=>if DK args then
    match C f args ⟨[],0⟩with
    |some (.ok (.own o g off len),s')=>match nth s'.σ o with
     |some (.arr g' es nn cl elems)=>if g=g'∧off=0∧cl=true∧len=elems.length then some (.ok (.own s.σ.length s.ctr 0 len),push s (.arr s.ctr es nn cl elems))else none
     |_=>none
    |some (.ok (.sl false []),_)=>some (.ok (.own s.σ.length s.ctr 0 0),push s (.arr s.ctr 1 false true []))
    |_=>none
   else none
 | .share=>match C f args s with
   |some (.ok r,s')=>(compact s.σ.length r s').map fun(r,s)=>(.ok r,s)
   |some (.DI v,s')=>if v.closed then some (.DI v,⟨s'.σ.take s.σ.length,s'.ctr⟩)else none
   |none=>none
 | .keep=>C f args s
def ok (s:Am) (v:Option AV):Option (AX×Am):=v.map fun v=>(.ok v,s)
def Aj (C:AQ) (o:CW) (env:Env) (s:Am):Option (AX×Am):=
 match o with
 | .ZM x=>some (.ok (x.val env),s)
 | .JX es=>some (.ok (.own s.σ.length s.ctr 0 0),push s (.arr s.ctr es false true []))
 | .Ll off e2 es cs=>match nth cs off with
   |some (.sl false [])=>if 0<e2 then some (.ok (.ref (s.σ.length+1) (s.ctr+1) 0 0),push (push s (.arr s.ctr e2 false true [])) (.arr (s.ctr+1) es true (AV.agg (cs.set off (.own s.σ.length s.ctr 0 0))).closed [.agg (cs.set off (.own s.σ.length s.ctr 0 0))]))else none
   |_=>none
 | .pick c a b=>match c.val env with
   | .bool true=>some (.ok (a.val env),s)
   | .bool false=>some (.ok (b.val env),s)
   |_=>none
 | .alloc es z=>some (.ok (.ref s.σ.length s.ctr 0 0),push s (.arr s.ctr es true z.closed [z]))
 | .box es x=>let v:=x.val env
   if v.storable&&v.cells.length==es then some (.ok (.ref s.σ.length s.ctr 0 0),push s (.arr s.ctr es true v.closed [v]))else none
 | .build z parts=>(EL z (KR env parts)).map fun cs=>(.ok (.agg cs),s)
 | .lit own es z len parts=>
   let ps:=QS env parts
   if UE es len ps 0 then
    if own then some (.ok (.own s.σ.length s.ctr 0 len),push s (.arr s.ctr es true (IQ ps) (BZ z len ps 0)))
    else if len=0 then some (.ok .zc,s)
    else if IQ ps then some (.ok (.sl true (BZ z len ps 0)),s)else none
   else none
 | .load sz a=>match a.val env with
   | .CV cs=>ok s (loadCells cs sz)
   | .ref o g i off=>match nth s.σ o with
     |some (.arr g' _ _ _ elems)=>if g=g' then match nth elems i with
         |some x=>ok s (loadCells (x.cells.drop off) sz)
         |none=>none
      else none
     |_=>none
   |_=>none
 | .store sz a x=>match a.val env with
   | .ref o g i off=>match nth s.σ o with
     |some (.arr g' es nn cl elems)=>if g=g' then match nth elems i with
          |some y=>
           let v:=x.val env
           if v.storable&&v.cells.length==sz&&off+sz≤es then
            some (.ok .undef,⟨s.σ.set o (.arr g' es nn (cl&&v.closed) (elems.set i (BQ y off v))),s.ctr⟩)
           else none
          |none=>none
      else none
     |_=>none
   |_=>none
 | .QX x=>match x.val env with
   | .ref o g i off=>some (.ok (.ref o g i off),s)
   | .CV cs=>some (.ok (.CV cs),s)
   | .fn f cs=>some (.ok (.fn f cs),s)
   |_=>none
 | .bin op t x y=>ok s (bin op t (x.val env) (y.val env))
 | .un op x=>match op,x.val env with
   | .not,.bool b=>some (.ok (.bool !b),s)
   | .neg,.int k n=>some (.ok (.int k (k.wrap (0-n))),s)
   |_,_=>none
 | .conv k x=>match x.val env with
   | .int _ n=>some (.ok (.int k (k.wrap n)),s)
   |_=>none
 | .convs x=>match x.val env with
   | .str b=>some (.ok (.str b),s)
   |_=>none
 | .field off sz x=>match x.val env with
   | .agg cs=>ok s (loadCells (cs.drop off) sz)
   |_=>none
 | .RG off x=>match x.val env with
   | .CV cs=>some (.ok (.CV (cs.drop off)),s)
   | .ref o g i off'=>some (.ok (.ref o g i (off'+off)),s)
   |_=>none
 | .UA es x i=>match x.val env,i.val env with
   | .sl _ xs,.int _ i=>if 0≤i then match nth xs i.toNat with
      |some v=>if v.cells.length=es then some (.ok (.CV v.cells),s)else none
      |none=>none
     else none
   | .own o g off len,.int _ i=>match nth s.σ o with
     |some (.arr g' es' _ _ _)=>if g=g'∧es=es'∧0≤i∧i<len then some (.ok (.ref o g (off+i.toNat) 0),s)else none
     |_=>none
   |_,_=>none
 | .YW es n x i=>match x.val env,i.val env with
   | .CV cs,.int _ i=>if 0≤i∧i<n then some (.ok (.CV (cs.drop (i.toNat*es))),s)else none
   | .ref o g j off,.int _ i=>if 0≤i∧i<n then some (.ok (.ref o g j (off+i.toNat*es)),s)else none
   |_,_=>none
 | .AaM x i=>match x.val env,i.val env with
   | .str bs,.int _ i=>if 0≤i then match nth bs i.toNat with
      |some b=>some (.ok (.int .u8 b.toNat),s)
      |none=>none
     else none
   |_,_=>none
 | .Afr es n sz x i=>match x.val env,i.val env with
   | .agg cs,.int _ i=>if 0≤i∧i<n then ok s (loadCells (cs.drop (i.toNat*es)) sz)else none
   |_,_=>none
 | .slice es x lo hi=>match x.val env with
   | .sl nn xs=>match bounds env xs.length lo hi with
     |some (l,h)=>if Bo es xs then some (.ok (.sl nn (sub xs l (h-l))),s)else none
     |none=>none
   | .zc=>match bounds env 0 lo hi with
     |some _=>some (.ok .zc,s)
     |none=>none
   | .own o g off len=>match nth s.σ o with
     |some (.arr g' es' _ _ _)=>if g=g'∧es=es' then match bounds env len lo hi with
          |some (l,h)=>some (.ok (.own o g (off+l) (h-l)),s)
          |none=>none
      else none
     |_=>none
   |_=>none
 | .UC x=>match x.val env with
   | .sl true _=>some (.ok .zc,s)
   | .sl false _=>some (.ok (.sl false []),s)
   | .zc=>some (.ok .zc,s)
   | .own o g 0 _=>match nth s.σ o with
     |some (.arr g' _ nn _ _)=>if g=g' then if nn then some (.ok .zc,s)else some (.ok (.sl false []),s)else none
     |_=>none
   |_=>none
 | .MR x lo hi=>match x.val env with
   | .str bs=>match bounds env bs.length lo hi with
     |some (l,h)=>some (.ok (.str ((bs.drop l).take (h-l))),s)
     |none=>none
   |_=>none
 | .len k x=>match k,x.val env with
   | .slice,.sl _ xs=>some (.ok (.int .i64 xs.length),s)
   | .slice,.zc=>some (.ok (.int .i64 0),s)
   | .slice,.own _ _ _ n=>some (.ok (.int .i64 n),s)
   | .str,.str bs=>some (.ok (.int .i64 bs.length),s)
   | .map,.Dt=>some (.ok (.int .i64 0),s)
   | .map,.map o g=>match nth s.σ o with
     |some (.mp g' _ ents)=>if g=g' then some (.ok (.int .i64 ents.length),s)else none
     |_=>none
   | .map,.fmap ents=>some (.ok (.int .i64 ents.length),s)
   | .func,.sl false []=>some (.ok (.int .i64 0),s)
   |_,_=>none
 | .min x y=>match x.val env,y.val env with
   | .int k a,.int _ b=>some (.ok (.int k (if b<a then b else a)),s)
   |_,_=>none
 | .max x y=>match x.val env,y.val env with
   | .int k a,.int _ b=>some (.ok (.int k (if b>a then b else a)),s)
   |_,_=>none
 | .append es bytes a x=>match elemsOf s es (x.val env)with
   |some (ys,cl)=>(Em es bytes s (a.val env) ys cl).map fun(v,s)=>(.ok v,s)
   |none=>none
 | .IU es bytes z len cap=>match len.val env,cap.val env with
   | .int _ l,.int _ c=>if 0≤l∧l≤c∧roomy bytes c.toNat then
      some (.ok (.own s.σ.length s.ctr 0 l.toNat),push s (.arr s.ctr es true z.closed (List.replicate l.toNat z)))
     else none
   |_,_=>none
 | .P5=>some (.ok (.map s.σ.length s.ctr),push s (.mp s.ctr true []))
 | .lookup t z SV m k=>match(match m.val env with
    | .Dt=>if JQ t (k.val env)then some none else none
    | .map o g=>match nth s.σ o with
      |some (.mp g' _ ents)=>if g=g'∧JQ t (k.val env)then findKey t (k.val env) ents 0 else none
      |_=>none
    | .fmap ents=>if JQ t (k.val env)then findKey t (k.val env) ents 0 else none
    |_=>none)with
   |some r=>
    let v:=match r with|some (_,v)=>v|none=>z
    some (.ok (if SV then .Cb [v,.bool r.isSome]else v),s)
   |none=>none
 | .mapset t m k v=>match m.val env with
   | .map o g=>match nth s.σ o with
     |some (.mp g' cl ents)=>if g=g'∧JQ t (k.val env)∧(v.val env).storable then
          match findKey t (k.val env) ents 0 with
          |some (some (i,_))=>some (.ok .undef,⟨s.σ.set o (.mp g' (cl&&(v.val env).closed) (ents.set i (k.val env,v.val env))),s.ctr⟩)
          |some none=>some (.ok .undef,⟨s.σ.set o (.mp g' (cl&&(v.val env).closed) (ents++[(k.val env,v.val env)])),s.ctr⟩)
          |none=>none
      else none
     |_=>none
   |_=>none
 | .delete t m k=>match m.val env with
   | .map o g=>match nth s.σ o with
     |some (.mp g' cl ents)=>if g=g'∧JQ t (k.val env)then
          match findKey t (k.val env) ents 0 with
          |some (some (i,_))=>some (.ok .undef,⟨s.σ.set o (.mp g' cl (ents.eraseIdx i)),s.ctr⟩)
          |some none=>some (.ok .undef,s)
          |none=>none
      else none
     |_=>none
   |_=>none
 | .clear es x=>match x.val env with
   | .own o g off len=>match nth s.σ o with
     |some (.arr g' es' nn cl elems)=>if g=g'∧es=es'∧off+len≤elems.length then
          some (.ok .undef,⟨s.σ.set o (.arr g' es' nn cl (if len=0 then elems else elems.take off)),s.ctr⟩)
      else none
     |_=>none
   |_=>none
 | .ext x i=>match x.val env with
   | .Cb cs=>ok s (nth cs i)
   |_=>none
 | .AeM f caps=>some (.ok (.fn f (vals env caps)),s)
 | .AhH t x=>let v:=x.val env
   if v.storable then some (.ok (.iface t v),s)else none
 | .panic x=>match x.val env with
   | .iface t v=>some (.DI (.iface t v),s)
   |_=>none
 | .call m f args=>Bf C m f (vals env args) s
 | .Io m x args=>match x.val env with
   | .fn f caps=>Bf C m f (vals env args++caps) s
   |_=>none
def put (d:Option Nat) (v:AV) (env:Env):Env:=match d with
 |some t=>(t,v)::env
 |none=>env
def wanted (g:Option (Nat×Bool)) (env:Env):Option Bool:=match g with
 |none=>some true
 |some (t,b)=>match env.get t with
  | .bool b'=>some (b'==b)
  | .undef=>some false
  |_=>none
def DL (C:AQ):List AU→Env→Am→Option (AZ×Env×Am)
 |[],env,s=>some (.normal,env,s)
 |o::os,env,s=>match wanted o.guard env with
  |none=>none
  |some false=>DL C os (put o.dst .undef env) s
  |some true=>match Aj C o.op env s with
   |some (.ok v,s')=>DL C os (put o.dst v env) s'
   |some (.DI v,s')=>some (.DI v,env,s')
   |none=>none
def NU:List AV→Nat→Option (Nat×Nat×Nat×Nat×Nat)
 |[],_=>none
 | .own o g off len::_,k=>some (k,o,g,off,len)
 |_::cs,k=>NU cs (k+1)
def GK:List Nat→Env→Am→Option (Env×Am)
 |[],env,s=>some (env,s)
 |t::ts,env,s=>match env.get t with
  | .own o g off len=>match nth s.σ o with
    |some (.arr g' _ nn true elems)=>if g=g'∧off+len≤elems.length then GK ts ((t,.sl nn (sub elems off len))::env) ⟨s.σ.set o .dead,s.ctr⟩else none
    |_=>none
  | .ref o g i off=>match nth s.σ o with
    |some (.arr g' _ _ true elems)=>if g=g' then match nth elems i with
         |some x=>GK ts ((t,.CV (x.cells.drop off))::env) ⟨s.σ.set o .dead,s.ctr⟩
         |none=>none
     else none
    |some (.arr g' _ _ false [x])=>match NU x.cells 0 with
     |some (k,o2,g2,a2,n2)=>match nth s.σ o2 with
      |some (.arr g3 _ nn3 true Jp)=>if g=g'∧i=0∧off=0∧g2=g3∧o2≠o∧a2+n2≤Jp.length∧DK (x.cells.set k (.sl nn3 (sub Jp a2 n2)))=true then GK ts ((t,.CV (x.cells.set k (.sl nn3 (sub Jp a2 n2))))::env) ⟨(s.σ.set o2 .dead).set o .dead,s.ctr⟩else none
      |_=>none
     |none=>none
    |_=>none
  | .map o g=>match nth s.σ o with
    |some (.mp g' true ents)=>if g=g'∧YE ents=true then GK ts ((t,.fmap ents)::env) ⟨s.σ.set o .dead,s.ctr⟩else none
    |_=>none
  | .sl nn xs=>GK ts ((t,.sl nn xs)::env) s
  | .zc=>GK ts ((t,.zc)::env) s
  |_=>none
def commit (env:Env):List Nat→Env
 |[]=>[]
 |t::ts=>(t,env.get t)::commit env ts
def kept (k len:Nat):Nat:=bif Nat.blt k 1000 then k else len-(k-1000)
def truncate (t:Option Nat) (s:Am):Am:=match t with
 |none=>s
 |some k=>⟨s.σ.take (kept k s.σ.length),s.ctr⟩
def iter (f:Env→Am→Option (AZ×Env×Am)):Nat→Env→Am→Option (AZ×Env×Am)
 |0,_,_=>none
 |n+1,env,s=>match f env s with
  |some (.normal,env',s')=>iter f n env' s'
  |r=>r
inductive Cls where
 |e|r|w|a
 deriving DecidableEq
def CW.cls:CW→Option Cls
 | .ZM _| .pick .. | .build .. | .bin .. | .un .. | .conv .. | .convs _| .field .. | .RG .. | .YW .. | .AaM .. | .Afr .. | .MR .. | .min .. | .max .. | .ext .. | .AeM .. | .AhH .. | .QX _=>some .e
 | .load .. | .UA .. | .slice .. | .UC _| .len .. | .lookup ..=>some .r
 | .store .. | .mapset .. | .delete .. | .clear ..=>some .w
 | .JX _| .alloc .. | .box .. | .IU .. | .P5| .append ..=>some .a
 | .lit own ..=>some (bif own then .a else .e)
 | .call m ..=>match m with
   | .pure=>some .e
   | .own=>some .a
   |_=>none
 | .Io m ..=>match m with
   | .pure=>some .e
   | .own=>some .a
   |_=>none
 | .panic _| .Ll ..=>none
def AV.obj:AV→List Nat
 | .own o _ _ _=>[o]
 | .ref o _ _ _=>[o]
 | .map o _=>[o]
 |_=>[]
def Yp:Option AO→List AO
 |some x=>[x]
 |none=>[]
def CW.BU:CW→List AO
 | .ZM x| .box _ x| .load _ x| .QX x| .un _ x| .conv _ x| .convs x| .field _ _ x| .RG _ x| .UC x| .len _ x| .ext x _| .AhH _ x| .panic x| .clear _ x=>[x]
 | .JX _| .alloc .. | .Ll .. | .P5=>[]
 | .pick c a b=>[c,a,b]
 | .build _ ps=>ps.map fun(_,_,x)=>x
 | .lit _ _ _ _ ps=>ps.map fun(_,x)=>x
 | .store _ a x| .bin _ _ a x| .UA _ a x| .YW _ _ a x| .AaM a x| .Afr _ _ _ a x| .min a x| .max a x| .append _ _ a x| .IU _ _ _ a x| .lookup _ _ _ a x| .delete _ a x=>[a,x]
 | .slice _ x lo hi| .MR x lo hi=>x::(Yp lo++Yp hi)
 | .mapset _ m k v=>[m,k,v]
 | .AeM _ xs| .call _ _ xs=>xs
 | .Io _ x xs=>x::xs
def DY (env:Env):List AO→List Nat
 |[]=>[]
 |x::xs=>(x.val env).obj++DY env xs
def CW.reads (o:CW) (r:Nat) (env:Env):List Nat:=match o.cls with
 |some .r|some .w=>DY env o.BU
 |some .a=>r::DY env o.BU
 |_=>[]
def CW.writes (o:CW) (r:Nat) (env:Env):List Nat:=match o with
 | .store _ a _=>(a.val env).obj
 | .mapset _ m _ _=>(m.val env).obj
 | .delete _ m _=>(m.val env).obj
 | .clear _ x=>(x.val env).obj
 | .append _ _ a _=>r::(a.val env).obj
 |o=>match o.cls with
  |some .a=>[r]
  |_=>[]
def AV.moved (t g:Nat):AV→AV
 | .own _ _ off len=>.own t g off len
 | .ref _ _ i off=>.ref t g i off
 | .map _ _=>.map t g
 |v=>v
def Obj.Rz (g:Nat):Obj→Obj
 | .arr _ es nn cl elems=>.arr g es nn cl elems
 | .mp _ cl ents=>.mp g cl ents
 | .raw _ x=>.raw g x
 | .dead=>.dead
def AV.idx:AV→Nat
 | .own o _ _ _=>o
 | .ref o _ _ _=>o
 | .map o _=>o
 |_=>0
def Jm (C:AQ) (o:CW) (r g:Nat) (env:Env) (s:Am):Option (AV×Option (Nat×Obj)×Nat):=
 match o.cls,Aj C o env s with
 |some .e,some (.ok v,_)=>some (v,none,0)
 |some .r,some (.ok v,_)=>some (v,none,0)
 |some .w,some (.ok v,s')=>match o.writes r env with
  |[t]=>match nth s'.σ t with
   |some ob=>some (v,some (t,ob),0)
   |none=>none
  |_=>none
 |some .a,some (.ok v,s')=>match nth s'.σ v.idx with
  |some ob=>if v.idx<s.σ.length then some (v.moved v.idx g,some (v.idx,ob.Rz g),1)
   else match nth s.σ r with
   |some .dead=>some (v.moved r g,some (r,ob.Rz g),1)
   |_=>none
  |none=>none
 |_,_=>none
structure Eff where
 dst:Option Nat
 v:AV
 rd:List Nat
 wr:List Nat
 upd:Option (Nat×Obj)
 bump:Nat
 deriving Inhabited
def FQ (u:Option (Nat×Obj)) (b:Nat) (s:Am):Am:=match u with
 |some (t,ob)=>⟨s.σ.set t ob,s.ctr+b⟩
 |none=>⟨s.σ,s.ctr+b⟩
def rank (o:CW):Nat:=match o.cls with
 |some .a=>1
 |_=>0
def IE (C:AQ):List AU→Nat→Nat→Env→Am→Option (List Eff)
 |[],_,_,_,_=>some []
 |o::os,r,g,env,s=>match wanted o.guard env with
  |none=>none
  |some false=>match IE C os (r+rank o.op) (g+1) (put o.dst .undef env) s with
   |some es=>some (⟨o.dst,.undef,[],[],none,0⟩::es)
   |none=>none
  |some true=>match Jm C o.op r g env s with
   |some (v,u,b)=>match IE C os (r+rank o.op) (g+1) (put o.dst v env) (FQ u b s)with
    |some es=>some (⟨o.dst,v,o.op.reads r env,o.op.writes r env,u,b⟩::es)
    |none=>none
   |none=>none
def OQ:List Eff→Env→Env
 |[],env=>env
 |e::es,env=>OQ es (put e.dst e.v env)
def MZ:List Eff→Am→Am
 |[],s=>s
 |e::es,s=>MZ es (FQ e.upd e.bump s)
def D8 (x:Nat):List Nat→Bool
 |[]=>false
 |y::ys=>bif Nat.beq x y then true else D8 x ys
def Iw:List Nat→List Nat→Bool
 |[],_=>true
 |x::xs,ys=>bif D8 x ys then false else Iw xs ys
def YC (a b:Eff):Bool:=Iw a.wr b.rd&&(Iw a.wr b.wr&&Iw a.rd b.wr)
def Kr (es:List Eff):List (Nat×Nat)→Bool
 |[]=>true
 |(i,j)::ps=>match nth es i,nth es j with
  |some a,some b=>YC a b&&Kr es ps
  |_,_=>false
def ranks:List AU→Nat
 |[]=>0
 |o::os=>rank o.op+ranks os
def Nh (C:AQ) (m:Nat) (un:List (Nat×Nat)) (ops:List AU) (env:Env) (s:Am):Option (Env×Am):=
 match IE C (ops.take m) s.σ.length s.ctr env ⟨s.σ++List.replicate (ranks (ops.take m)) .dead,s.ctr+m⟩with
 |some es=>if Kr es un then some (OQ es env,MZ es ⟨s.σ++List.replicate (ranks (ops.take m)) .dead,s.ctr+m⟩)else none
 |none=>none
def CW.Gh:CW→Bool
 | .JX _| .alloc .. | .Ll .. | .box .. | .store .. | .append .. | .IU .. | .P5| .mapset .. | .delete .. | .clear .. | .panic _=>false
 | .lit own ..=>!own
 | .call m ..=>m==.pure||m==.borrow
 | .Io m ..=>m==.pure||m==.borrow
 |_=>true
def flt (o:AU):Bool:=match o.op.cls with
 |some .e=>o.op.Gh
 |_=>false
mutual
def BR:AV→AV→Bool
 | .bool a,.bool b=>decide (a=b)
 | .int k x,.int k' x'=>decide (k=k')&&decide (x=x')
 | .str a,.str b=>decide (a=b)
 | .sl b l,.sl b' l'=>decide (b=b')&&Nb l l'
 | .own o g i n,.own o' g' i' n'=>Nat.beq o o'&&Nat.beq g g'&&Nat.beq i i'&&Nat.beq n n'
 | .ref o g i n,.ref o' g' i' n'=>Nat.beq o o'&&Nat.beq g g'&&Nat.beq i i'&&Nat.beq n n'
 | .map o g,.map o' g'=>Nat.beq o o'&&Nat.beq g g'
 | .CV l,.CV l'=>Nb l l'
 | .agg l,.agg l'=>Nb l l'
 |_,_=>false
def Nb:List AV→List AV→Bool
 |[],[]=>true
 |x::l,y::r=>BR x y&&Nb l r
 |_,_=>false
end
def KX (C:AQ) (op:CW) (env:Env) (v:AV):List Am→Bool
 |[]=>true
 |S::r=>match Aj C op env S with
  |some (.ok u,_)=>BR u v&&KX C op env v r
  |_=>false
def KY (C:AQ) (S:Am):List (CW×Env×AV)→Bool
 |[]=>true
 |(op,env,v)::r=>match Aj C op env S with
  |some (.ok u,_)=>BR u v&&KY C S r
  |_=>false
def EI (C:AQ) (E:List Nat):List AU→Nat→Env→Am→Bool
 |[],_,_,_=>true
 |o::os,i,env,s=>if D8 i E then match wanted o.guard env with
   |some true=>match Aj C o.op env s with
    |some (.ok v,_)=>flt o&&EI C E os (i+1) (put o.dst v env) s
    |_=>false
   |some false=>EI C E os (i+1) (put o.dst .undef env) s
   |none=>false
  else EI C E os (i+1) env s
def GL (C:AQ) (m:Nat) (W pc:List Nat):List AU→Nat→Env→Am→List (CW×Env×AV)→List Am→Option (AZ×Env×Am)
 |[],_,env,s,_,_=>some (.normal,env,s)
 |o::os,i,env,s,pend,past=>match wanted o.guard env with
  |none=>none
  |some false=>GL C m W pc os (i+1) (put o.dst .undef env) s pend past
  |some true=>match Aj C o.op env s with
   |some (.ok v,s1)=>
    if D8 i W then
          if o.op.Gh&&KX C o.op env v past then GL C m W pc os (i+1) (put o.dst v env) s ((o.op,env,v)::pend) past else none
    else if flt o||Nat.blt i m then GL C m W pc os (i+1) (put o.dst v env) s pend past
    else if KY C s1 pend then GL C m W pc os (i+1) (put o.dst v env) s1 pend (s::past)else none
   |some (.DI v,s1)=>match pc with
    |p::E=>if Nat.beq i p&&!(D8 i W||(flt o||Nat.blt i m))&&EI C E os (i+1) env s then some (.DI v,[],s1)else none
    |[]=>none
   |none=>none
def Fp (C:AQ) (N:Nat):Bd→Env→Am→Option (AZ×Env×Am)
 | .skip,env,s=>some (.normal,env,s)
 | .region _ KG ops live trunc,env,s=>match GK KG env s with
   |some (env,s)=>match DL C ops env s with
    |some (.normal,env,s)=>some (.normal,commit env live,truncate trunc s)
    |r=>r
   |none=>none
 | .par m un KG ops live trunc,env,s=>match GK KG env s with
   |some (env,s)=>match Nh C m un ops env s with
    |some (env,s)=>match DL C (ops.drop m) env s with
     |some (.normal,env,s)=>some (.normal,commit env live,truncate trunc s)
     |r=>r
    |none=>none
   |none=>none
 | .mix m W pc KG ops live trunc,env,s=>match GK KG env s with
   |some (env,s)=>match GL C m W pc ops 0 env s [] []with
    |some (.normal,env,s)=>some (.normal,commit env live,truncate trunc s)
    |r=>r
   |none=>none
 | .seq a b,env,s=>match Fp C N a env s with
   |some (.normal,env',s')=>Fp C N b env' s'
   |r=>r
 | .cond c a b,env,s=>match c.val env with
   | .bool true=>Fp C N a env s
   | .bool false=>Fp C N b env s
   |_=>none
 | .block id a,env,s=>match Fp C N a env s with
   |some (.exit j,env',s')=>if j=id then some (.normal,env',s')else some (.exit j,env',s')
   |r=>r
 | .loop live a,env,s=>iter (fun env s=>Fp C N a (commit env live) s) N env s
 | .exit id,env,s=>some (.exit id,env,s)
 | .ret,env,s=>some (.ret,env,s)
inductive Vg where
 |tmp (t:Nat)
 |cell (t:Nat) (sz:Option Nat)
 deriving Inhabited
structure GU where
 np:Nat
 body:Bd
 results:List Vg
 deriving Inhabited
structure X3 where
 np:Nat
 Aab:Bd
 pre2:Bd
 post:Bd
 tcl:Nat
 cell:Nat
 tag:Nat
 results:List Vg
 deriving Inhabited
inductive G9 where
 |code (fn:GU)
 |ext (spec:List AV→Am→Option (AX×Am))
 |dfr (d:X3)
def H7 (env:Env) (s:Am):Vg→Option AV
 | .tmp t=>some (env.get t)
 | .cell t sz=>match env.get t with
   | .ref o g i off=>match nth s.σ o with
     |some (.arr g' _ _ _ elems)=>if g=g' then match nth elems i with
         |some x=>loadCells (x.cells.drop off) sz
         |none=>none
      else none
     |_=>none
   |_=>none
def D7 (env:Env) (s:Am):List Vg→Option (List AV)
 |[]=>some []
 |r::rs=>match H7 env s r,D7 env s rs with
  |some v,some vs=>some (v::vs)
  |_,_=>none
def En:List AV→AV
 |[v]=>v
 |vs=>.Cb vs
def params:List AV→Nat→Env
 |[],_=>[]
 |v::vs,i=>(i,v)::params vs (i+1)
def evF (C:AQ) (N:Nat) (fn:GU) (args:List AV) (s:Am):Option (AX×Am):=
 match Fp C N fn.body (params args 0) s with
 |some (.normal,env,s')=>(D7 env s' fn.results).map fun vs=>(.ok (En vs),s')
 |some (.ret,env,s')=>(D7 env s' fn.results).map fun vs=>(.ok (En vs),s')
 |some (.DI v,_,s')=>some (.DI v,s')
 |_=>none
def WZ (d:X3) (env:Env) (s:Am):Option (AX×Am):=(D7 env s d.results).map fun vs=>(.ok (En vs),s)
def OJ (C:AQ) (d:X3) (c v:AV) (env:Env) (s:Am):Option (AX×Am):=match v with
 | .iface t (.int k n)=>if t=d.tag then
    match Aj C (.store 1 (.cst c) (.cst (.int k n))) [] s with
    |some (.ok _,s')=>WZ d env s'
    |_=>none
   else none
 |_=>none
def evD (C:AQ) (N:Nat) (d:X3) (args:List AV) (s:Am):Option (AX×Am):=
 match Fp C N (.seq d.Aab d.pre2) (params args 0) s with
 |some (.ret,env,s1)=>WZ d env s1
 |some (.DI v,_,s1)=>some (.DI v,s1)
 |some (.normal,env,s1)=>match env.get d.tcl with
  | .junk=>match Fp C N d.post env s1 with
    |some (.normal,Dx,s2)=>WZ d Dx s2
    |some (.ret,Dx,s2)=>WZ d Dx s2
    |some (.DI v,Dx,s2)=>OJ C d (env.get d.cell) v Dx s2
    |_=>none
  |_=>none
 |_=>none
def run (AP:Nat→Option G9):Nat→AQ
 |0=>fun _ _ _=>none
 |n+1=>fun f args s=>match AP f with
  |some (.code fn)=>if args.length=fn.np then evF (run AP n) n fn args s else none
  |some (.ext sp)=>sp args s
  |some (.dfr d)=>if args.length=d.np then evD (run AP n) n d args s else none
  |none=>none
end AI
end Go.Proofs.YtchcadfjbkkgmaaGreatDoor
