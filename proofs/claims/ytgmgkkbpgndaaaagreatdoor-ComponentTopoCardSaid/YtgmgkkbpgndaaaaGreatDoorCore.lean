/- The abstract interpreter: values without a heap, operations, the evaluator and its weakest-precondition form. Program-independent. -/
import GoSem.Dispatch
import Derived.KernelRfl
namespace Go.Proofs.YtgmgkkbpgndaaaaGreatDoor
namespace AI
inductive AV where
 |bool (b:Bool)
 |int (k:IntKind) (n:Int)
 |str (s:List UInt8)
 |sl (nn:Bool) (xs:List AV)
 |zc
 |own (o g off len:Nat)
 |agg (cs:List AV)
 |tup (cs:List AV)
 |ref (o g i off:Nat)
 |fref (cs:List AV)
 |fn (f:Nat) (caps:List AV)
 |map (o g:Nat)
 |fmap (ents:List (AV×AV))
 |iface (t:Nat) (v:AV)
 |nilp
 |nilmap
 |nilfn
 |nilif
 |undef
 |junk
 deriving Inhabited
def AV.cells:AV→List AV
 | .agg cs=>cs
 |v=>[v]
def AV.one:AV→Bool
 | .agg _| .tup _| .undef| .junk=>false
 |_=>true
def AV.storable:AV→Bool
 | .tup _| .undef| .junk=>false
 |_=>true
mutual
def AV.closed:AV→Bool
 | .own .. | .ref .. | .map ..=>false
 | .agg cs=>closedL cs
 | .tup cs=>closedL cs
 | .fn _ cs=>closedL cs
 | .iface _ v=>v.closed
 |_=>true
def closedL:List AV→Bool
 |[]=>true
 |v::vs=>v.closed&&closedL vs
end
mutual
def AV.scalar:AV→Bool
 | .bool _| .int .. | .str _| .nilp| .nilmap| .nilfn| .nilif| .undef=>true
 | .sl false []=>true
 | .agg cs=>scalarL cs
 | .tup cs=>scalarL cs
 |_=>false
def scalarL:List AV→Bool
 |[]=>true
 |v::vs=>v.scalar&&scalarL vs
end
inductive Obj where
 |arr (g es:Nat) (nn cl:Bool) (elems:List AV)
 |mp (g:Nat) (cl:Bool) (ents:List (AV×AV))
 |raw (g:Nat) (x:Go.Obj)
 |dead
 deriving Inhabited
structure Sto where
 σ:List Obj
 ctr:Nat
 deriving Inhabited
abbrev Env:=List (Nat×AV)
def Env.get:Env→Nat→AV
 |[],_=>.junk
 |(k,v)::e,n=>bif Nat.beq k n then v else Env.get e n
inductive AO where
 |tmp (t:Nat)
 |cst (v:AV)
 deriving Inhabited
def AO.val (e:Env):AO→AV
 | .tmp t=>e.get t
 | .cst v=>v
def vals (e:Env):List AO→List AV
 |[]=>[]
 |x::xs=>x.val e::vals e xs
def nth {α:Type}:List α→Nat→Option α
 |[],_=>none
 |x::_,0=>some x
 |_::xs,n+1=>nth xs n
inductive Mode where
 |pure|borrow|share|own|keep
 deriving DecidableEq,Repr,Inhabited
inductive EqT where
 |bool|int|str|slice|ptr|func|map
 |flat (ks:List EqT)
 |other
 deriving Inhabited
inductive AOp where
 |mov (x:AO)
 |newown (es:Nat)
 |alloco (off e2 es:Nat) (cs:List AV)
 |pick (c a b:AO)
 |alloc (es:Nat) (z:AV)
 |box (es:Nat) (x:AO)
 |build (z:List AV) (parts:List (Nat×Nat×AO))
 |lit (own:Bool) (es:Nat) (z:AV) (len:Nat) (parts:List (Nat×AO))
 |load (sz:Option Nat) (a:AO)
 |store (sz:Nat) (a x:AO)
 |nilchk (x:AO)
 |bin (op:BinOp) (t:EqT) (x y:AO)
 |un (op:UnOp) (x:AO)
 |conv (k:IntKind) (x:AO)
 |convs (x:AO)
 |field (off:Nat) (sz:Option Nat) (x:AO)
 |faddr (off:Nat) (x:AO)
 |iaddr (es:Nat) (x i:AO)
 |aaddr (es n:Nat) (x i:AO)
 |sidx (x i:AO)
 |aidx (es n:Nat) (sz:Option Nat) (x i:AO)
 |slice (es:Nat) (x:AO) (lo hi:Option AO)
 |slice0 (x:AO)
 |sslice (x:AO) (lo hi:Option AO)
 |len (k:EqT) (x:AO)
 |min (x y:AO)
 |max (x y:AO)
 |append (es bytes:Nat) (s x:AO)
 |mkslice (es bytes:Nat) (z:AV) (len cap:AO)
 |mkmap
 |lookup (t:EqT) (z:AV) (ok:Bool) (m k:AO)
 |mapset (t:EqT) (m k v:AO)
 |delete (t:EqT) (m k:AO)
 |clear (es:Nat) (x:AO)
 |ext (x:AO) (i:Nat)
 |mkfn (f:Nat) (caps:List AO)
 |mkif (t:Nat) (x:AO)
 |panic (x:AO)
 |call (m:Mode) (f:Nat) (args:List AO)
 |callv (m:Mode) (x:AO) (args:List AO)
 deriving Inhabited
structure AOper where
 dst:Option Nat
 op:AOp
 guard:Option (Nat×Bool)
 deriving Inhabited
inductive ACode where
 |skip
 |region (head:Option Nat) (frz:List Nat) (ops:List AOper) (live:List Nat) (trunc:Option Nat)
 |par (m:Nat) (un:List (Nat×Nat)) (frz:List Nat) (ops:List AOper) (live:List Nat) (trunc:Option Nat)
 |mix (m:Nat) (W pc:List Nat) (frz:List Nat) (ops:List AOper) (live:List Nat) (trunc:Option Nat)
 |seq (a b:ACode)
 |cond (c:AO) (a b:ACode)
 |block (id:Nat) (a:ACode)
 |loop (live:List Nat) (a:ACode)
 |exit (id:Nat)
 |ret
 deriving Inhabited
inductive AExit where
 |normal
 |exit (id:Nat)
 |ret
 |pan (v:AV)
 deriving Inhabited
inductive AOut where
 |ok (v:AV)
 |pan (v:AV)
 deriving Inhabited
abbrev CallF:=Nat→List AV→Sto→Option (AOut×Sto)
def sub (xs:List AV) (off len:Nat):List AV:=(xs.drop off).take len
mutual
def snap (σ:List Obj):Nat→AV→Option AV
 |0,_=>none
 |n+1,v=>match v with
  | .own o g off len=>match nth σ o with
    |some (.arr g' _ nn cl elems)=>
     if g=g'∧off+len≤elems.length then
          if cl then some (.sl nn (sub elems off len))else(snapL σ n (sub elems off len)).map (.sl nn)
     else none
    |_=>none
  | .ref o g i off=>match nth σ o with
    |some (.arr g' _ _ cl elems)=>
     if g=g' then
          match nth elems i with
          |some x=>if cl then some (.fref (x.cells.drop off))else(snapL σ n (x.cells.drop off)).map .fref
          |none=>none
     else none
    |_=>none
  | .map o g=>match nth σ o with
    |some (.mp g' _ ents)=>if g=g' then(snapE σ n ents).map .fmap else none
    |_=>none
  | .agg cs=>(snapL σ n cs).map .agg
  | .tup cs=>(snapL σ n cs).map .tup
  | .fn f cs=>(snapL σ n cs).map (.fn f)
  | .iface t v=>(snap σ n v).map (.iface t)
  |v=>some v
def snapL (σ:List Obj):Nat→List AV→Option (List AV)
 |_,[]=>some []
 |0,_::_=>none
 |n+1,v::vs=>match snap σ n v,snapL σ n vs with
  |some a,some b=>some (a::b)
  |_,_=>none
def snapE (σ:List Obj):Nat→List (AV×AV)→Option (List (AV×AV))
 |_,[]=>some []
 |0,_::_=>none
 |n+1,(k,v)::es=>match snap σ n v,snapE σ n es with
  |some a,some b=>if k.closed then some ((k,a)::b)else none
  |_,_=>none
end
def keysC:List (AV×AV)→Bool
 |[]=>true
 |(k,_)::es=>k.closed&&keysC es
def snapDepth:Nat:=1000000
def loadCells (cs:List AV):Option Nat→Option AV
 |none=>nth cs 0
 |some n=>if n≤cs.length then some (.agg (cs.take n))else none
def writeCells (x:AV) (off:Nat) (y:AV):AV:=
 if off=0∧y.cells.length=x.cells.length then y else .agg (x.cells.take off++y.cells++x.cells.drop (off+y.cells.length))
def eqLeaf:EqT→AV→AV→Option Bool
 | .int,.int k a,.int k' b=>if k=k' then some (a==b)else none
 | .bool,.bool a,.bool b=>some (a==b)
 | .str,.str a,.str b=>some (a==b)
 |_,_,_=>none
def eqFlat:List EqT→List AV→List AV→Option Bool
 |[],[],[]=>some true
 |k::ks,x::xs,y::ys=>match eqLeaf k x y with
  |some true=>eqFlat ks xs ys
  |some false=>some false
  |none=>none
 |_,_,_=>none
def eqAV (t:EqT) (x y:AV):Option Bool:=
 match t with
 | .flat ks=>match x,y with
   | .agg xs,.agg ys=>eqFlat ks xs ys
   |_,_=>none
 | .slice=>match x,y with
   | .sl nn _,.sl false []=>some (!nn)
   | .zc,.sl false []=>some false
   | .sl false [],.sl nn _=>some (!nn)
   |_,_=>none
 | .ptr=>match x,y with
   | .nilp,.nilp=>some true
   | .fref _,.nilp=>some false
   | .ref ..,.nilp=>some false
   |_,_=>none
 | .func=>match x,y with
   | .nilfn,.nilfn=>some true
   | .fn ..,.nilfn=>some false
   |_,_=>none
 | .map=>match x,y with
   | .nilmap,.nilmap=>some true
   | .map ..,.nilmap=>some false
   |_,_=>none
 |t=>eqLeaf t x y
def binInt (op:BinOp) (k:IntKind) (a b:Int):Option AV:=
 match op with
 | .add=>some (.int k (k.wrap (a+b)))
 | .sub=>some (.int k (k.wrap (a-b)))
 | .mul=>some (.int k (k.wrap (a*b)))
 | .quo=>if b=0 then none else some (.int k (k.wrap (a.tdiv b)))
 | .rem=>if b=0 then none else some (.int k (a.tmod b))
 | .eql=>some (.bool (a==b))
 | .neq=>some (.bool (a != b))
 | .lss=>some (.bool (decide (a<b)))
 | .leq=>some (.bool (decide (a≤b)))
 | .gtr=>some (.bool (decide (a>b)))
 | .geq=>some (.bool (decide (a≥b)))
 | .and=>some (.int k (k.wrap (BitVec.ofInt k.bits a &&& BitVec.ofInt k.bits b).toNat))
 | .or=>some (.int k (k.wrap (BitVec.ofInt k.bits a ||| BitVec.ofInt k.bits b).toNat))
 | .xor=>some (.int k (k.wrap (BitVec.ofInt k.bits a ^^^ BitVec.ofInt k.bits b).toNat))
 | .shl=>if b<0 then none else some (.int k (k.wrap (a*2 ^ (min b.toNat k.bits))))
 | .shr=>if b<0 then none else some (.int k (a.fdiv (2 ^ (min b.toNat k.bits))))
 |_=>none
def binStr (op:BinOp) (a b:List UInt8):Option AV:=
 match op with
 | .eql=>some (.bool (a==b))
 | .neq=>some (.bool !(a==b))
 | .lss=>some (.bool (Op.bytesLess a b))
 | .leq=>some (.bool (Op.bytesLess a b||a==b))
 | .gtr=>some (.bool !(Op.bytesLess a b||a==b))
 | .geq=>some (.bool !(Op.bytesLess a b))
 | .add=>if a.length+b.length<2 ^ 63 then some (.str (a++b))else none
 |_=>none
def bin (op:BinOp) (t:EqT) (x y:AV):Option AV:=
 match x,y with
 | .int k a,.int k' b=>if k=k' then binInt op k a b else match op with
   | .shl=>binInt .shl k a b
   | .shr=>binInt .shr k a b
   |_=>none
 | .str a,.str b=>binStr op a b
 |x,y=>match op with
  | .eql=>(eqAV t x y).map .bool
  | .neq=>(eqAV t x y).map fun b=>.bool !b
  |_=>none
def findKey (t:EqT) (k:AV):List (AV×AV)→Nat→Option (Option (Nat×AV))
 |[],_=>some none
 |(k',v)::es,i=>match eqLeaf t k k' with
  |some true=>some (some (i,v))
  |some false=>findKey t k es (i+1)
  |none=>none
def keyOk:EqT→AV→Bool
 | .int,.int .. | .str,.str _| .bool,.bool _=>true
 |_,_=>false
def buildCells:List AV→List (Nat×Nat×AV)→Option (List AV)
 |z,[]=>some z
 |z,(off,sz,v)::ps=>
  if v.storable&&v.cells.length==sz&&off+sz≤z.length then
   buildCells (z.take off++v.cells++z.drop (off+sz)) ps
  else none
def litElems (z:AV):Nat→List (Nat×AV)→Nat→List AV
 |0,_,_=>[]
 |n+1,[],i=>z::litElems z n [] (i+1)
 |n+1,(j,v)::ps,i=>bif Nat.beq i j then v::litElems z n ps (i+1)else z::litElems z n ((j,v)::ps) (i+1)
def litOk (es:Nat) (len:Nat):List (Nat×AV)→Nat→Bool
 |[],_=>true
 |(j,v)::ps,i=>i≤j&&j<len&&v.storable&&v.cells.length==es&&litOk es len ps (j+1)
def vparts (e:Env):List (Nat×Nat×AO)→List (Nat×Nat×AV)
 |[]=>[]
 |(o,s,x)::ps=>(o,s,x.val e)::vparts e ps
def vlit (e:Env):List (Nat×AO)→List (Nat×AV)
 |[]=>[]
 |(j,x)::ps=>(j,x.val e)::vlit e ps
def closedP:List (Nat×AV)→Bool
 |[]=>true
 |(_,v)::ps=>v.closed&&closedP ps
def elemsOf (s:Sto) (es:Nat):AV→Option (List AV×Bool)
 | .sl _ xs=>some (xs,true)
 | .zc=>some ([],true)
 | .own o g off len=>match nth s.σ o with
   |some (.arr g' es' _ cl elems)=>if g=g'∧es=es'∧off+len≤elems.length then some (sub elems off len,cl)else none
   |_=>none
 |_=>none
def AllSize (es:Nat) (xs:List AV):Prop:=∀x∈xs,x.cells.length=es
instance (es:Nat) (xs:List AV):Decidable (AllSize es xs):=by unfold AllSize;infer_instance
def roomy (bytes n:Nat):Prop:=n*bytes≤2 ^ 47
instance (b n:Nat):Decidable (roomy b n):=by unfold roomy;infer_instance
def push (s:Sto) (o:Obj):Sto:=⟨s.σ++[o],s.ctr+1⟩
def evAppend (es bytes:Nat) (s:Sto) (a:AV) (ys:List AV) (cl:Bool):Option (AV×Sto):=
 match a with
 | .sl false []=>if AllSize es ys∧roomy bytes ys.length then some (.own s.σ.length s.ctr 0 ys.length,push s (.arr s.ctr es (!ys.isEmpty) cl ys))else none
 | .zc=>if AllSize es ys∧roomy bytes ys.length then some (.own s.σ.length s.ctr 0 ys.length,push s (.arr s.ctr es true cl ys))else none
 | .own o g 0 len=>match nth s.σ o with
   |some (.arr g' es' nn cl' elems)=>
    if g=g'∧es=es'∧len≤elems.length∧AllSize es ys∧roomy bytes (len+ys.length)then
     some (.own o s.ctr 0 (len+ys.length),⟨s.σ.set o (.arr s.ctr es (nn||!ys.isEmpty) (cl'&&cl) (elems.take len++ys)),s.ctr+1⟩)
    else none
   |_=>none
 |_=>none
def bound (x:AV):Option Nat:=match x with
 | .int _ n=>if 0≤n then some n.toNat else none
 |_=>none
def bounds (env:Env) (len:Nat) (lo hi:Option AO):Option (Nat×Nat):=
 match(match hi with|none=>some len|some x=>bound (x.val env)),(match lo with|none=>some 0|some x=>bound (x.val env))with
 |some h,some l=>if l≤h∧h≤len then some (l,h)else none
 |_,_=>none
def pureCall (C:CallF) (f:Nat) (args:List AV):Option AV:=
 match C f args ⟨[],0⟩with
 |some (.ok r,s')=>snap s'.σ snapDepth r
 |_=>none
def compact (base:Nat) (r:AV) (s:Sto):Option (AV×Sto):=
 match r with
 | .own o g off len=>if o<base then some (r,⟨s.σ.take base,s.ctr⟩)else
    match nth s.σ o with
    |some ob=>some (.own base g off len,⟨s.σ.take base++[ob],s.ctr⟩)
    |none=>none
 |r=>if r.closed then some (r,⟨s.σ.take base,s.ctr⟩)else some (r,s)
def callMode (C:CallF) (m:Mode) (f:Nat) (args:List AV) (s:Sto):Option (AOut×Sto):=
 match m with
 | .pure=>if closedL args then(pureCall C f args).map fun r=>(.ok r,s)else none
 | .borrow=>match snapL s.σ snapDepth args with
   |some args'=>match pureCall C f args' with
    |some r=>if r.scalar then some (.ok r,s)else none
    |none=>none
   |none=>none
 | .own=>if closedL args then
    match C f args ⟨[],0⟩with
    |some (.ok (.own o g off len),s')=>match nth s'.σ o with
     |some (.arr g' es nn cl elems)=>if g=g'∧off=0∧cl=true∧len=elems.length then some (.ok (.own s.σ.length s.ctr 0 len),push s (.arr s.ctr es nn cl elems))else none
     |_=>none
    |some (.ok (.sl false []),_)=>some (.ok (.own s.σ.length s.ctr 0 0),push s (.arr s.ctr 1 false true []))
    |_=>none
   else none
 | .share=>match C f args s with
   |some (.ok r,s')=>(compact s.σ.length r s').map fun(r,s)=>(.ok r,s)
   |some (.pan v,s')=>if v.closed then some (.pan v,⟨s'.σ.take s.σ.length,s'.ctr⟩)else none
   |none=>none
 | .keep=>C f args s
def ok (s:Sto) (v:Option AV):Option (AOut×Sto):=v.map fun v=>(.ok v,s)
def evOp (C:CallF) (o:AOp) (env:Env) (s:Sto):Option (AOut×Sto):=
 match o with
 | .mov x=>some (.ok (x.val env),s)
 | .newown es=>some (.ok (.own s.σ.length s.ctr 0 0),push s (.arr s.ctr es false true []))
 | .alloco off e2 es cs=>match nth cs off with
   |some (.sl false [])=>if 0<e2 then some (.ok (.ref (s.σ.length+1) (s.ctr+1) 0 0),push (push s (.arr s.ctr e2 false true [])) (.arr (s.ctr+1) es true (AV.agg (cs.set off (.own s.σ.length s.ctr 0 0))).closed [.agg (cs.set off (.own s.σ.length s.ctr 0 0))]))else none
   |_=>none
 | .pick c a b=>match c.val env with
   | .bool true=>some (.ok (a.val env),s)
   | .bool false=>some (.ok (b.val env),s)
   |_=>none
 | .alloc es z=>some (.ok (.ref s.σ.length s.ctr 0 0),push s (.arr s.ctr es true z.closed [z]))
 | .box es x=>let v:=x.val env
   if v.storable&&v.cells.length==es then some (.ok (.ref s.σ.length s.ctr 0 0),push s (.arr s.ctr es true v.closed [v]))else none
 | .build z parts=>(buildCells z (vparts env parts)).map fun cs=>(.ok (.agg cs),s)
 | .lit own es z len parts=>
   let ps:=vlit env parts
   if litOk es len ps 0 then
    if own then some (.ok (.own s.σ.length s.ctr 0 len),push s (.arr s.ctr es true (closedP ps) (litElems z len ps 0)))
    else if len=0 then some (.ok .zc,s)
    else if closedP ps then some (.ok (.sl true (litElems z len ps 0)),s)else none
   else none
 | .load sz a=>match a.val env with
   | .fref cs=>ok s (loadCells cs sz)
   | .ref o g i off=>match nth s.σ o with
     |some (.arr g' _ _ _ elems)=>if g=g' then match nth elems i with
         |some x=>ok s (loadCells (x.cells.drop off) sz)
         |none=>none
      else none
     |_=>none
   |_=>none
 | .store sz a x=>match a.val env with
   | .ref o g i off=>match nth s.σ o with
     |some (.arr g' es nn cl elems)=>if g=g' then match nth elems i with
          |some y=>
           let v:=x.val env
           if v.storable&&v.cells.length==sz&&off+sz≤es then
            some (.ok .undef,⟨s.σ.set o (.arr g' es nn (cl&&v.closed) (elems.set i (writeCells y off v))),s.ctr⟩)
           else none
          |none=>none
      else none
     |_=>none
   |_=>none
 | .nilchk x=>match x.val env with
   | .ref o g i off=>some (.ok (.ref o g i off),s)
   | .fref cs=>some (.ok (.fref cs),s)
   | .fn f cs=>some (.ok (.fn f cs),s)
   |_=>none
 | .bin op t x y=>ok s (bin op t (x.val env) (y.val env))
 | .un op x=>match op,x.val env with
   | .not,.bool b=>some (.ok (.bool !b),s)
   | .neg,.int k n=>some (.ok (.int k (k.wrap (0-n))),s)
   |_,_=>none
 | .conv k x=>match x.val env with
   | .int _ n=>some (.ok (.int k (k.wrap n)),s)
   |_=>none
 | .convs x=>match x.val env with
   | .str b=>some (.ok (.str b),s)
   |_=>none
 | .field off sz x=>match x.val env with
   | .agg cs=>ok s (loadCells (cs.drop off) sz)
   |_=>none
 | .faddr off x=>match x.val env with
   | .fref cs=>some (.ok (.fref (cs.drop off)),s)
   | .ref o g i off'=>some (.ok (.ref o g i (off'+off)),s)
   |_=>none
 | .iaddr es x i=>match x.val env,i.val env with
   | .sl _ xs,.int _ i=>if 0≤i then match nth xs i.toNat with
      |some v=>if v.cells.length=es then some (.ok (.fref v.cells),s)else none
      |none=>none
     else none
   | .own o g off len,.int _ i=>match nth s.σ o with
     |some (.arr g' es' _ _ _)=>if g=g'∧es=es'∧0≤i∧i<len then some (.ok (.ref o g (off+i.toNat) 0),s)else none
     |_=>none
   |_,_=>none
 | .aaddr es n x i=>match x.val env,i.val env with
   | .fref cs,.int _ i=>if 0≤i∧i<n then some (.ok (.fref (cs.drop (i.toNat*es))),s)else none
   | .ref o g j off,.int _ i=>if 0≤i∧i<n then some (.ok (.ref o g j (off+i.toNat*es)),s)else none
   |_,_=>none
 | .sidx x i=>match x.val env,i.val env with
   | .str bs,.int _ i=>if 0≤i then match nth bs i.toNat with
      |some b=>some (.ok (.int .u8 b.toNat),s)
      |none=>none
     else none
   |_,_=>none
 | .aidx es n sz x i=>match x.val env,i.val env with
   | .agg cs,.int _ i=>if 0≤i∧i<n then ok s (loadCells (cs.drop (i.toNat*es)) sz)else none
   |_,_=>none
 | .slice es x lo hi=>match x.val env with
   | .sl nn xs=>match bounds env xs.length lo hi with
     |some (l,h)=>if AllSize es xs then some (.ok (.sl nn (sub xs l (h-l))),s)else none
     |none=>none
   | .zc=>match bounds env 0 lo hi with
     |some _=>some (.ok .zc,s)
     |none=>none
   | .own o g off len=>match nth s.σ o with
     |some (.arr g' es' _ _ _)=>if g=g'∧es=es' then match bounds env len lo hi with
          |some (l,h)=>some (.ok (.own o g (off+l) (h-l)),s)
          |none=>none
      else none
     |_=>none
   |_=>none
 | .slice0 x=>match x.val env with
   | .sl true _=>some (.ok .zc,s)
   | .sl false _=>some (.ok (.sl false []),s)
   | .zc=>some (.ok .zc,s)
   | .own o g 0 _=>match nth s.σ o with
     |some (.arr g' _ nn _ _)=>if g=g' then if nn then some (.ok .zc,s)else some (.ok (.sl false []),s)else none
     |_=>none
   |_=>none
 | .sslice x lo hi=>match x.val env with
   | .str bs=>match bounds env bs.length lo hi with
     |some (l,h)=>some (.ok (.str ((bs.drop l).take (h-l))),s)
     |none=>none
   |_=>none
 | .len k x=>match k,x.val env with
   | .slice,.sl _ xs=>some (.ok (.int .i64 xs.length),s)
   | .slice,.zc=>some (.ok (.int .i64 0),s)
   | .slice,.own _ _ _ n=>some (.ok (.int .i64 n),s)
   | .str,.str bs=>some (.ok (.int .i64 bs.length),s)
   | .map,.nilmap=>some (.ok (.int .i64 0),s)
   | .map,.map o g=>match nth s.σ o with
     |some (.mp g' _ ents)=>if g=g' then some (.ok (.int .i64 ents.length),s)else none
     |_=>none
   | .map,.fmap ents=>some (.ok (.int .i64 ents.length),s)
   | .func,.sl false []=>some (.ok (.int .i64 0),s)
   |_,_=>none
 | .min x y=>match x.val env,y.val env with
   | .int k a,.int _ b=>some (.ok (.int k (if b<a then b else a)),s)
   |_,_=>none
 | .max x y=>match x.val env,y.val env with
   | .int k a,.int _ b=>some (.ok (.int k (if b>a then b else a)),s)
   |_,_=>none
 | .append es bytes a x=>match elemsOf s es (x.val env)with
   |some (ys,cl)=>(evAppend es bytes s (a.val env) ys cl).map fun(v,s)=>(.ok v,s)
   |none=>none
 | .mkslice es bytes z len cap=>match len.val env,cap.val env with
   | .int _ l,.int _ c=>if 0≤l∧l≤c∧roomy bytes c.toNat then
      some (.ok (.own s.σ.length s.ctr 0 l.toNat),push s (.arr s.ctr es true z.closed (List.replicate l.toNat z)))
     else none
   |_,_=>none
 | .mkmap=>some (.ok (.map s.σ.length s.ctr),push s (.mp s.ctr true []))
 | .lookup t z okk m k=>match(match m.val env with
    | .nilmap=>if keyOk t (k.val env)then some none else none
    | .map o g=>match nth s.σ o with
      |some (.mp g' _ ents)=>if g=g'∧keyOk t (k.val env)then findKey t (k.val env) ents 0 else none
      |_=>none
    | .fmap ents=>if keyOk t (k.val env)then findKey t (k.val env) ents 0 else none
    |_=>none)with
   |some r=>
    let v:=match r with|some (_,v)=>v|none=>z
    some (.ok (if okk then .tup [v,.bool r.isSome]else v),s)
   |none=>none
 | .mapset t m k v=>match m.val env with
   | .map o g=>match nth s.σ o with
     |some (.mp g' cl ents)=>if g=g'∧keyOk t (k.val env)∧(v.val env).storable then
          match findKey t (k.val env) ents 0 with
          |some (some (i,_))=>some (.ok .undef,⟨s.σ.set o (.mp g' (cl&&(v.val env).closed) (ents.set i (k.val env,v.val env))),s.ctr⟩)
          |some none=>some (.ok .undef,⟨s.σ.set o (.mp g' (cl&&(v.val env).closed) (ents++[(k.val env,v.val env)])),s.ctr⟩)
          |none=>none
      else none
     |_=>none
   |_=>none
 | .delete t m k=>match m.val env with
   | .map o g=>match nth s.σ o with
     |some (.mp g' cl ents)=>if g=g'∧keyOk t (k.val env)then
          match findKey t (k.val env) ents 0 with
          |some (some (i,_))=>some (.ok .undef,⟨s.σ.set o (.mp g' cl (ents.eraseIdx i)),s.ctr⟩)
          |some none=>some (.ok .undef,s)
          |none=>none
      else none
     |_=>none
   |_=>none
 | .clear es x=>match x.val env with
   | .own o g off len=>match nth s.σ o with
     |some (.arr g' es' nn cl elems)=>if g=g'∧es=es'∧off+len≤elems.length then
          some (.ok .undef,⟨s.σ.set o (.arr g' es' nn cl (if len=0 then elems else elems.take off)),s.ctr⟩)
      else none
     |_=>none
   |_=>none
 | .ext x i=>match x.val env with
   | .tup cs=>ok s (nth cs i)
   |_=>none
 | .mkfn f caps=>some (.ok (.fn f (vals env caps)),s)
 | .mkif t x=>let v:=x.val env
   if v.storable then some (.ok (.iface t v),s)else none
 | .panic x=>match x.val env with
   | .iface t v=>some (.pan (.iface t v),s)
   |_=>none
 | .call m f args=>callMode C m f (vals env args) s
 | .callv m x args=>match x.val env with
   | .fn f caps=>callMode C m f (vals env args++caps) s
   |_=>none
def put (d:Option Nat) (v:AV) (env:Env):Env:=match d with
 |some t=>(t,v)::env
 |none=>env
def wanted (g:Option (Nat×Bool)) (env:Env):Option Bool:=match g with
 |none=>some true
 |some (t,b)=>match env.get t with
  | .bool b'=>some (b'==b)
  | .undef=>some false
  |_=>none
def evOps (C:CallF):List AOper→Env→Sto→Option (AExit×Env×Sto)
 |[],env,s=>some (.normal,env,s)
 |o::os,env,s=>match wanted o.guard env with
  |none=>none
  |some false=>evOps C os (put o.dst .undef env) s
  |some true=>match evOp C o.op env s with
   |some (.ok v,s')=>evOps C os (put o.dst v env) s'
   |some (.pan v,s')=>some (.pan v,env,s')
   |none=>none
def evFrz:List Nat→Env→Sto→Option (Env×Sto)
 |[],env,s=>some (env,s)
 |t::ts,env,s=>match env.get t with
  | .own o g off len=>match nth s.σ o with
    |some (.arr g' _ nn true elems)=>if g=g'∧off+len≤elems.length then evFrz ts ((t,.sl nn (sub elems off len))::env) ⟨s.σ.set o .dead,s.ctr⟩else none
    |_=>none
  | .ref o g i off=>match nth s.σ o with
    |some (.arr g' _ _ true elems)=>if g=g' then match nth elems i with
         |some x=>evFrz ts ((t,.fref (x.cells.drop off))::env) ⟨s.σ.set o .dead,s.ctr⟩
         |none=>none
     else none
    |_=>none
  | .map o g=>match nth s.σ o with
    |some (.mp g' true ents)=>if g=g'∧keysC ents=true then evFrz ts ((t,.fmap ents)::env) ⟨s.σ.set o .dead,s.ctr⟩else none
    |_=>none
  | .sl nn xs=>evFrz ts ((t,.sl nn xs)::env) s
  | .zc=>evFrz ts ((t,.zc)::env) s
  |_=>none
def commit (env:Env):List Nat→Env
 |[]=>[]
 |t::ts=>(t,env.get t)::commit env ts
def kept (k len:Nat):Nat:=bif Nat.blt k 1000 then k else len-(k-1000)
def truncate (t:Option Nat) (s:Sto):Sto:=match t with
 |none=>s
 |some k=>⟨s.σ.take (kept k s.σ.length),s.ctr⟩
def iter (f:Env→Sto→Option (AExit×Env×Sto)):Nat→Env→Sto→Option (AExit×Env×Sto)
 |0,_,_=>none
 |n+1,env,s=>match f env s with
  |some (.normal,env',s')=>iter f n env' s'
  |r=>r
inductive Cls where
 |e|r|w|a
 deriving DecidableEq
def AOp.cls:AOp→Option Cls
 | .mov _| .pick .. | .build .. | .bin .. | .un .. | .conv .. | .convs _| .field .. | .faddr .. | .aaddr .. | .sidx .. | .aidx .. | .sslice .. | .min .. | .max .. | .ext .. | .mkfn .. | .mkif .. | .nilchk _=>some .e
 | .load .. | .iaddr .. | .slice .. | .slice0 _| .len .. | .lookup ..=>some .r
 | .store .. | .mapset .. | .delete .. | .clear ..=>some .w
 | .newown _| .alloc .. | .box .. | .mkslice .. | .mkmap| .append ..=>some .a
 | .lit own ..=>some (bif own then .a else .e)
 | .call m ..=>match m with
   | .pure=>some .e
   | .own=>some .a
   |_=>none
 | .callv m ..=>match m with
   | .pure=>some .e
   | .own=>some .a
   |_=>none
 | .panic _| .alloco ..=>none
def AV.obj:AV→List Nat
 | .own o _ _ _=>[o]
 | .ref o _ _ _=>[o]
 | .map o _=>[o]
 |_=>[]
def optL:Option AO→List AO
 |some x=>[x]
 |none=>[]
def AOp.aos:AOp→List AO
 | .mov x| .box _ x| .load _ x| .nilchk x| .un _ x| .conv _ x| .convs x| .field _ _ x| .faddr _ x| .slice0 x| .len _ x| .ext x _| .mkif _ x| .panic x| .clear _ x=>[x]
 | .newown _| .alloc .. | .alloco .. | .mkmap=>[]
 | .pick c a b=>[c,a,b]
 | .build _ ps=>ps.map fun(_,_,x)=>x
 | .lit _ _ _ _ ps=>ps.map fun(_,x)=>x
 | .store _ a x| .bin _ _ a x| .iaddr _ a x| .aaddr _ _ a x| .sidx a x| .aidx _ _ _ a x| .min a x| .max a x| .append _ _ a x| .mkslice _ _ _ a x| .lookup _ _ _ a x| .delete _ a x=>[a,x]
 | .slice _ x lo hi| .sslice x lo hi=>x::(optL lo++optL hi)
 | .mapset _ m k v=>[m,k,v]
 | .mkfn _ xs| .call _ _ xs=>xs
 | .callv _ x xs=>x::xs
def objsOf (env:Env):List AO→List Nat
 |[]=>[]
 |x::xs=>(x.val env).obj++objsOf env xs
def AOp.reads (o:AOp) (r:Nat) (env:Env):List Nat:=match o.cls with
 |some .r|some .w=>objsOf env o.aos
 |some .a=>r::objsOf env o.aos
 |_=>[]
def AOp.writes (o:AOp) (r:Nat) (env:Env):List Nat:=match o with
 | .store _ a _=>(a.val env).obj
 | .mapset _ m _ _=>(m.val env).obj
 | .delete _ m _=>(m.val env).obj
 | .clear _ x=>(x.val env).obj
 | .append _ _ a _=>r::(a.val env).obj
 |o=>match o.cls with
  |some .a=>[r]
  |_=>[]
def AV.moved (t g:Nat):AV→AV
 | .own _ _ off len=>.own t g off len
 | .ref _ _ i off=>.ref t g i off
 | .map _ _=>.map t g
 |v=>v
def Obj.regen (g:Nat):Obj→Obj
 | .arr _ es nn cl elems=>.arr g es nn cl elems
 | .mp _ cl ents=>.mp g cl ents
 | .raw _ x=>.raw g x
 | .dead=>.dead
def AV.idx:AV→Nat
 | .own o _ _ _=>o
 | .ref o _ _ _=>o
 | .map o _=>o
 |_=>0
def parOp (C:CallF) (o:AOp) (r g:Nat) (env:Env) (s:Sto):Option (AV×Option (Nat×Obj)×Nat):=
 match o.cls,evOp C o env s with
 |some .e,some (.ok v,_)=>some (v,none,0)
 |some .r,some (.ok v,_)=>some (v,none,0)
 |some .w,some (.ok v,s')=>match o.writes r env with
  |[t]=>match nth s'.σ t with
   |some ob=>some (v,some (t,ob),0)
   |none=>none
  |_=>none
 |some .a,some (.ok v,s')=>match nth s'.σ v.idx with
  |some ob=>if v.idx<s.σ.length then some (v.moved v.idx g,some (v.idx,ob.regen g),1)
   else match nth s.σ r with
   |some .dead=>some (v.moved r g,some (r,ob.regen g),1)
   |_=>none
  |none=>none
 |_,_=>none
structure Eff where
 dst:Option Nat
 v:AV
 rd:List Nat
 wr:List Nat
 upd:Option (Nat×Obj)
 bump:Nat
 deriving Inhabited
def applyU (u:Option (Nat×Obj)) (b:Nat) (s:Sto):Sto:=match u with
 |some (t,ob)=>⟨s.σ.set t ob,s.ctr+b⟩
 |none=>⟨s.σ,s.ctr+b⟩
def rank (o:AOp):Nat:=match o.cls with
 |some .a=>1
 |_=>0
def evPar (C:CallF):List AOper→Nat→Nat→Env→Sto→Option (List Eff)
 |[],_,_,_,_=>some []
 |o::os,r,g,env,s=>match wanted o.guard env with
  |none=>none
  |some false=>match evPar C os (r+rank o.op) (g+1) (put o.dst .undef env) s with
   |some es=>some (⟨o.dst,.undef,[],[],none,0⟩::es)
   |none=>none
  |some true=>match parOp C o.op r g env s with
   |some (v,u,b)=>match evPar C os (r+rank o.op) (g+1) (put o.dst v env) (applyU u b s)with
    |some es=>some (⟨o.dst,v,o.op.reads r env,o.op.writes r env,u,b⟩::es)
    |none=>none
   |none=>none
def effEnv:List Eff→Env→Env
 |[],env=>env
 |e::es,env=>effEnv es (put e.dst e.v env)
def effSto:List Eff→Sto→Sto
 |[],s=>s
 |e::es,s=>effSto es (applyU e.upd e.bump s)
def memN (x:Nat):List Nat→Bool
 |[]=>false
 |y::ys=>bif Nat.beq x y then true else memN x ys
def apartN:List Nat→List Nat→Bool
 |[],_=>true
 |x::xs,ys=>bif memN x ys then false else apartN xs ys
def effApart (a b:Eff):Bool:=apartN a.wr b.rd&&(apartN a.wr b.wr&&apartN a.rd b.wr)
def allApart (es:List Eff):List (Nat×Nat)→Bool
 |[]=>true
 |(i,j)::ps=>match nth es i,nth es j with
  |some a,some b=>effApart a b&&allApart es ps
  |_,_=>false
def ranks:List AOper→Nat
 |[]=>0
 |o::os=>rank o.op+ranks os
def evHead (C:CallF) (m:Nat) (un:List (Nat×Nat)) (ops:List AOper) (env:Env) (s:Sto):Option (Env×Sto):=
 match evPar C (ops.take m) s.σ.length s.ctr env ⟨s.σ++List.replicate (ranks (ops.take m)) .dead,s.ctr+m⟩with
 |some es=>if allApart es un then some (effEnv es env,effSto es ⟨s.σ++List.replicate (ranks (ops.take m)) .dead,s.ctr+m⟩)else none
 |none=>none
def AOp.pureOp:AOp→Bool
 | .newown _| .alloc .. | .alloco .. | .box .. | .store .. | .append .. | .mkslice .. | .mkmap| .mapset .. | .delete .. | .clear .. | .panic _=>false
 | .lit own ..=>!own
 | .call m ..=>m==.pure||m==.borrow
 | .callv m ..=>m==.pure||m==.borrow
 |_=>true
def flt (o:AOper):Bool:=match o.op.cls with
 |some .e=>o.op.pureOp
 |_=>false
def sameLs:List AV→List AV→Bool
 |[],[]=>true
 | .str a::l,.str b::r=>decide (a=b)&&sameLs l r
 |_,_=>false
def sameRef:AV→AV→Bool
 | .int k x,.int k' x'=>decide (k=k')&&decide (x=x')
 | .sl b l,.sl b' l'=>decide (b=b')&&sameLs l l'
 | .own o g i n,.own o' g' i' n'=>Nat.beq o o'&&Nat.beq g g'&&Nat.beq i i'&&Nat.beq n n'
 | .ref o g i n,.ref o' g' i' n'=>Nat.beq o o'&&Nat.beq g g'&&Nat.beq i i'&&Nat.beq n n'
 |_,_=>false
def pastOk (C:CallF) (op:AOp) (env:Env) (v:AV):List Sto→Bool
 |[]=>true
 |S::r=>match evOp C op env S with
  |some (.ok u,_)=>sameRef u v&&pastOk C op env v r
  |_=>false
def pendOk (C:CallF) (S:Sto):List (AOp×Env×AV)→Bool
 |[]=>true
 |(op,env,v)::r=>match evOp C op env S with
  |some (.ok u,_)=>sameRef u v&&pendOk C S r
  |_=>false
def evEarly (C:CallF) (E:List Nat):List AOper→Nat→Env→Sto→Bool
 |[],_,_,_=>true
 |o::os,i,env,s=>if memN i E then match wanted o.guard env with
   |some true=>match evOp C o.op env s with
    |some (.ok v,_)=>flt o&&evEarly C E os (i+1) (put o.dst v env) s
    |_=>false
   |some false=>evEarly C E os (i+1) (put o.dst .undef env) s
   |none=>false
  else evEarly C E os (i+1) env s
def evMix (C:CallF) (m:Nat) (W pc:List Nat):List AOper→Nat→Env→Sto→List (AOp×Env×AV)→List Sto→Option (AExit×Env×Sto)
 |[],_,env,s,_,_=>some (.normal,env,s)
 |o::os,i,env,s,pend,past=>match wanted o.guard env with
  |none=>none
  |some false=>evMix C m W pc os (i+1) (put o.dst .undef env) s pend past
  |some true=>match evOp C o.op env s with
   |some (.ok v,s1)=>
    if memN i W then
          if o.op.pureOp&&pastOk C o.op env v past then evMix C m W pc os (i+1) (put o.dst v env) s ((o.op,env,v)::pend) past else none
    else if flt o||Nat.blt i m then evMix C m W pc os (i+1) (put o.dst v env) s pend past
    else if pendOk C s1 pend then evMix C m W pc os (i+1) (put o.dst v env) s1 pend (s::past)else none
   |some (.pan v,s1)=>match pc with
    |p::E=>if Nat.beq i p&&!(memN i W||(flt o||Nat.blt i m))&&evEarly C E os (i+1) env s then some (.pan v,[],s1)else none
    |[]=>none
   |none=>none
def evC (C:CallF) (N:Nat):ACode→Env→Sto→Option (AExit×Env×Sto)
 | .skip,env,s=>some (.normal,env,s)
 | .region _ frz ops live trunc,env,s=>match evFrz frz env s with
   |some (env,s)=>match evOps C ops env s with
    |some (.normal,env,s)=>some (.normal,commit env live,truncate trunc s)
    |r=>r
   |none=>none
 | .par m un frz ops live trunc,env,s=>match evFrz frz env s with
   |some (env,s)=>match evHead C m un ops env s with
    |some (env,s)=>match evOps C (ops.drop m) env s with
     |some (.normal,env,s)=>some (.normal,commit env live,truncate trunc s)
     |r=>r
    |none=>none
   |none=>none
 | .mix m W pc frz ops live trunc,env,s=>match evFrz frz env s with
   |some (env,s)=>match evMix C m W pc ops 0 env s [] []with
    |some (.normal,env,s)=>some (.normal,commit env live,truncate trunc s)
    |r=>r
   |none=>none
 | .seq a b,env,s=>match evC C N a env s with
   |some (.normal,env',s')=>evC C N b env' s'
   |r=>r
 | .cond c a b,env,s=>match c.val env with
   | .bool true=>evC C N a env s
   | .bool false=>evC C N b env s
   |_=>none
 | .block id a,env,s=>match evC C N a env s with
   |some (.exit j,env',s')=>if j=id then some (.normal,env',s')else some (.exit j,env',s')
   |r=>r
 | .loop live a,env,s=>iter (fun env s=>evC C N a (commit env live) s) N env s
 | .exit id,env,s=>some (.exit id,env,s)
 | .ret,env,s=>some (.ret,env,s)
inductive ARes where
 |tmp (t:Nat)
 |cell (t:Nat) (sz:Option Nat)
 deriving Inhabited
structure AFunc where
 np:Nat
 body:ACode
 results:List ARes
 deriving Inhabited
structure DFn where
 np:Nat
 pre1:ACode
 pre2:ACode
 post:ACode
 tcl:Nat
 cell:Nat
 tag:Nat
 results:List ARes
 deriving Inhabited
inductive AFn where
 |code (fn:AFunc)
 |ext (spec:List AV→Sto→Option (AOut×Sto))
 |dfr (d:DFn)
def evRes1 (env:Env) (s:Sto):ARes→Option AV
 | .tmp t=>some (env.get t)
 | .cell t sz=>match env.get t with
   | .ref o g i off=>match nth s.σ o with
     |some (.arr g' _ _ _ elems)=>if g=g' then match nth elems i with
         |some x=>loadCells (x.cells.drop off) sz
         |none=>none
      else none
     |_=>none
   |_=>none
def evRess (env:Env) (s:Sto):List ARes→Option (List AV)
 |[]=>some []
 |r::rs=>match evRes1 env s r,evRess env s rs with
  |some v,some vs=>some (v::vs)
  |_,_=>none
def tupOf:List AV→AV
 |[v]=>v
 |vs=>.tup vs
def params:List AV→Nat→Env
 |[],_=>[]
 |v::vs,i=>(i,v)::params vs (i+1)
def evF (C:CallF) (N:Nat) (fn:AFunc) (args:List AV) (s:Sto):Option (AOut×Sto):=
 match evC C N fn.body (params args 0) s with
 |some (.normal,env,s')=>(evRess env s' fn.results).map fun vs=>(.ok (tupOf vs),s')
 |some (.ret,env,s')=>(evRess env s' fn.results).map fun vs=>(.ok (tupOf vs),s')
 |some (.pan v,_,s')=>some (.pan v,s')
 |_=>none
def retD (d:DFn) (env:Env) (s:Sto):Option (AOut×Sto):=(evRess env s d.results).map fun vs=>(.ok (tupOf vs),s)
def catchD (C:CallF) (d:DFn) (c v:AV) (env:Env) (s:Sto):Option (AOut×Sto):=match v with
 | .iface t (.int k n)=>if t=d.tag then
    match evOp C (.store 1 (.cst c) (.cst (.int k n))) [] s with
    |some (.ok _,s')=>retD d env s'
    |_=>none
   else none
 |_=>none
def evD (C:CallF) (N:Nat) (d:DFn) (args:List AV) (s:Sto):Option (AOut×Sto):=
 match evC C N (.seq d.pre1 d.pre2) (params args 0) s with
 |some (.ret,env,s1)=>retD d env s1
 |some (.pan v,_,s1)=>some (.pan v,s1)
 |some (.normal,env,s1)=>match env.get d.tcl with
  | .junk=>match evC C N d.post env s1 with
    |some (.normal,env2,s2)=>retD d env2 s2
    |some (.ret,env2,s2)=>retD d env2 s2
    |some (.pan v,env2,s2)=>catchD C d (env.get d.cell) v env2 s2
    |_=>none
  |_=>none
 |_=>none
def run (AP:Nat→Option AFn):Nat→CallF
 |0=>fun _ _ _=>none
 |n+1=>fun f args s=>match AP f with
  |some (.code fn)=>if args.length=fn.np then evF (run AP n) n fn args s else none
  |some (.ext sp)=>sp args s
  |some (.dfr d)=>if args.length=d.np then evD (run AP n) n d args s else none
  |none=>none
end AI
end Go.Proofs.YtgmgkkbpgndaaaaGreatDoor
