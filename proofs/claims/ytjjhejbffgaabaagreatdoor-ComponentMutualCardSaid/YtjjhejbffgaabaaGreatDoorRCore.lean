/- The abstract interpreter: values without a heap, operations, the evaluator and its weakest-precondition form. Program-independent. -/
import GoSem.Dispatch
import Derived.KernelRfl
namespace Go.Proofs.YtjjhejbffgaabaaGreatDoor
namespace AI
inductive AV where
 |bool (b:Bool)
 |int (k:IntKind) (n:Int)
 |str (s:List UInt8)
 |sl (nn:Bool) (xs:List AV)
 |zc
 |own (o g off len:Nat)
 |agg (cs:List AV)
 |Du (cs:List AV)
 |ref (o g i off:Nat)
 |CO (cs:List AV)
 |fn (f:Nat) (caps:List AV)
 |map (o g:Nat)
 |fmap (ents:List (AV×AV))
 |iface (t:Nat) (v:AV)
 |IZ
 |Dp
 |FI
 |Gw
 |undef
 |junk
 deriving Inhabited
def AV.cells:AV→List AV
 | .agg cs=>cs
 |v=>[v]
def AV.one:AV→Bool
 | .agg _| .Du _| .undef| .junk=>false
 |_=>true
def AV.storable:AV→Bool
 | .Du _| .undef| .junk=>false
 |_=>true
mutual
def AV.closed:AV→Bool
 | .own .. | .ref .. | .map ..=>false
 | .agg cs=>DU cs
 | .Du cs=>DU cs
 | .fn _ cs=>DU cs
 | .iface _ v=>v.closed
 |_=>true
def DU:List AV→Bool
 |[]=>true
 |v::vs=>v.closed&&DU vs
end
mutual
def AV.scalar:AV→Bool
 | .bool _| .int .. | .str _| .IZ| .Dp| .FI| .Gw| .undef=>true
 | .sl false []=>true
 | .agg cs=>JZ cs
 | .Du cs=>JZ cs
 |_=>false
def JZ:List AV→Bool
 |[]=>true
 |v::vs=>v.scalar&&JZ vs
end
inductive Obj where
 |arr (g es:Nat) (nn cl:Bool) (elems:List AV)
 |mp (g:Nat) (cl:Bool) (ents:List (AV×AV))
 |raw (g:Nat) (x:Go.Obj)
 |dead
 deriving Inhabited
structure Ag where
 σ:List Obj
 ctr:Nat
 deriving Inhabited
abbrev Env:=List (Nat×AV)
def Env.get:Env→Nat→AV
 |[],_=>.junk
 |(k,v)::e,n=>bif Nat.beq k n then v else Env.get e n
inductive AO where
 |tmp (t:Nat)
 |cst (v:AV)
 deriving Inhabited
def AO.val (e:Env):AO→AV
 | .tmp t=>e.get t
 | .cst v=>v
def vals (e:Env):List AO→List AV
 |[]=>[]
 |x::xs=>x.val e::vals e xs
def nth {α:Type}:List α→Nat→Option α
 |[],_=>none
 |x::_,0=>some x
 |_::xs,n+1=>nth xs n
inductive Mode where
 |pure|borrow|share|own|keep
 deriving DecidableEq,Repr,Inhabited
inductive JC where
 |bool|int|str|slice|ptr|func|map
 |flat (ks:List JC)
 |other
 deriving Inhabited
inductive Cb where
 |Xl (x:AO)
 |I5 (es:Nat)
 |JJ (off e2 es:Nat) (cs:List AV)
 |pick (c a b:AO)
 |alloc (es:Nat) (z:AV)
 |box (es:Nat) (x:AO)
 |build (z:List AV) (parts:List (Nat×Nat×AO))
 |lit (own:Bool) (es:Nat) (z:AV) (len:Nat) (parts:List (Nat×AO))
 |load (sz:Option Nat) (a:AO)
 |store (sz:Nat) (a x:AO)
 |OD (x:AO)
 |bin (op:BinOp) (t:JC) (x y:AO)
 |un (op:UnOp) (x:AO)
 |conv (k:IntKind) (x:AO)
 |convs (x:AO)
 |field (off:Nat) (sz:Option Nat) (x:AO)
 |QE (off:Nat) (x:AO)
 |QF (es:Nat) (x i:AO)
 |VG (es n:Nat) (x i:AO)
 |Xx (x i:AO)
 |Abg (es n:Nat) (sz:Option Nat) (x i:AO)
 |slice (es:Nat) (x:AO) (lo hi:Option AO)
 |QD (x:AO)
 |KH (x:AO) (lo hi:Option AO)
 |len (k:JC) (x:AO)
 |min (x y:AO)
 |max (x y:AO)
 |append (es bytes:Nat) (s x:AO)
 |He (es bytes:Nat) (z:AV) (len cap:AO)
 |NH
 |lookup (t:JC) (z:AV) (ok:Bool) (m k:AO)
 |mapset (t:JC) (m k v:AO)
 |delete (t:JC) (m k:AO)
 |clear (es:Nat) (x:AO)
 |ext (x:AO) (i:Nat)
 |Abf (f:Nat) (caps:List AO)
 |AdG (t:Nat) (x:AO)
 |panic (x:AO)
 |call (m:Mode) (f:Nat) (args:List AO)
 |Gx (m:Mode) (x:AO) (args:List AO)
 deriving Inhabited
structure Aw where
 dst:Option Nat
 op:Cb
 guard:Option (Nat×Bool)
 deriving Inhabited
inductive AA where
 |skip
 |region (head:Option Nat) (JD:List Nat) (ops:List Aw) (live:List Nat) (trunc:Option Nat)
 |par (m:Nat) (un:List (Nat×Nat)) (JD:List Nat) (ops:List Aw) (live:List Nat) (trunc:Option Nat)
 |mix (m:Nat) (W pc:List Nat) (JD:List Nat) (ops:List Aw) (live:List Nat) (trunc:Option Nat)
 |seq (a b:AA)
 |cond (c:AO) (a b:AA)
 |block (id:Nat) (a:AA)
 |loop (live:List Nat) (a:AA)
 |exit (id:Nat)
 |ret
 deriving Inhabited
inductive Ar where
 |normal
 |exit (id:Nat)
 |ret
 |Ee (v:AV)
 deriving Inhabited
inductive AU where
 |ok (v:AV)
 |Ee (v:AV)
 deriving Inhabited
abbrev Au:=Nat→List AV→Ag→Option (AU×Ag)
def sub (xs:List AV) (off len:Nat):List AV:=(xs.drop off).take len
mutual
def snap (σ:List Obj):Nat→AV→Option AV
 |0,_=>none
 |n+1,v=>match v with
  | .own o g off len=>match nth σ o with
    |some (.arr g' _ nn cl elems)=>
     if g=g'∧off+len≤elems.length then
          if cl then some (.sl nn (sub elems off len))else(Iu σ n (sub elems off len)).map (.sl nn)
     else none
    |_=>none
  | .ref o g i off=>match nth σ o with
    |some (.arr g' _ _ cl elems)=>
     if g=g' then
          match nth elems i with
          |some x=>if cl then some (.CO (x.cells.drop off))else(Iu σ n (x.cells.drop off)).map .CO
          |none=>none
     else none
    |_=>none
  | .map o g=>match nth σ o with
    |some (.mp g' _ ents)=>if g=g' then(TT σ n ents).map .fmap else none
    |_=>none
  | .agg cs=>(Iu σ n cs).map .agg
  | .Du cs=>(Iu σ n cs).map .Du
  | .fn f cs=>(Iu σ n cs).map (.fn f)
  | .iface t v=>(snap σ n v).map (.iface t)
  |v=>some v
def Iu (σ:List Obj):Nat→List AV→Option (List AV)
 |_,[]=>some []
 |0,_::_=>none
 |n+1,v::vs=>match snap σ n v,Iu σ n vs with
  |some a,some b=>some (a::b)
  |_,_=>none
def TT (σ:List Obj):Nat→List (AV×AV)→Option (List (AV×AV))
 |_,[]=>some []
 |0,_::_=>none
 |n+1,(k,v)::es=>match snap σ n v,TT σ n es with
  |some a,some b=>if k.closed then some ((k,a)::b)else none
  |_,_=>none
end
def QT:List (AV×AV)→Bool
 |[]=>true
 |(k,_)::es=>k.closed&&QT es
def Hw:Nat:=1000000
def loadCells (cs:List AV):Option Nat→Option AV
 |none=>nth cs 0
 |some n=>if n≤cs.length then some (.agg (cs.take n))else none
def Bl (x:AV) (off:Nat) (y:AV):AV:=
 if off=0∧y.cells.length=x.cells.length then y else .agg (x.cells.take off++y.cells++x.cells.drop (off+y.cells.length))
def Dk:JC→AV→AV→Option Bool
 | .int,.int k a,.int k' b=>if k=k' then some (a==b)else none
 | .bool,.bool a,.bool b=>some (a==b)
 | .str,.str a,.str b=>some (a==b)
 |_,_,_=>none
def Nj:List JC→List AV→List AV→Option Bool
 |[],[],[]=>some true
 |k::ks,x::xs,y::ys=>match Dk k x y with
  |some true=>Nj ks xs ys
  |some false=>some false
  |none=>none
 |_,_,_=>none
def AcS (t:JC) (x y:AV):Option Bool:=
 match t with
 | .flat ks=>match x,y with
   | .agg xs,.agg ys=>Nj ks xs ys
   |_,_=>none
 | .slice=>match x,y with
   | .sl nn _,.sl false []=>some (!nn)
   | .zc,.sl false []=>some false
   | .sl false [],.sl nn _=>some (!nn)
   |_,_=>none
 | .ptr=>match x,y with
   | .IZ,.IZ=>some true
   | .CO _,.IZ=>some false
   | .ref ..,.IZ=>some false
   |_,_=>none
 | .func=>match x,y with
   | .FI,.FI=>some true
   | .fn ..,.FI=>some false
   |_,_=>none
 | .map=>match x,y with
   | .Dp,.Dp=>some true
   | .map ..,.Dp=>some false
   |_,_=>none
 |t=>Dk t x y
def I9 (op:BinOp) (k:IntKind) (a b:Int):Option AV:=
 match op with
 | .add=>some (.int k (k.wrap (a+b)))
 | .sub=>some (.int k (k.wrap (a-b)))
 | .mul=>some (.int k (k.wrap (a*b)))
 | .quo=>if b=0 then none else some (.int k (k.wrap (a.tdiv b)))
 | .rem=>if b=0 then none else some (.int k (a.tmod b))
 | .eql=>some (.bool (a==b))
 | .neq=>some (.bool (a != b))
 | .lss=>some (.bool (decide (a<b)))
 | .leq=>some (.bool (decide (a≤b)))
 | .gtr=>some (.bool (decide (a>b)))
 | .geq=>some (.bool (decide (a≥b)))
 | .and=>some (.int k (k.wrap (BitVec.ofInt k.bits a &&& BitVec.ofInt k.bits b).toNat))
 | .or=>some (.int k (k.wrap (BitVec.ofInt k.bits a ||| BitVec.ofInt k.bits b).toNat))
 | .xor=>some (.int k (k.wrap (BitVec.ofInt k.bits a ^^^ BitVec.ofInt k.bits b).toNat))
 | .shl=>if b<0 then none else some (.int k (k.wrap (a*2 ^ (min b.toNat k.bits))))
 | .shr=>if b<0 then none else some (.int k (a.fdiv (2 ^ (min b.toNat k.bits))))
 |_=>none
def Yl (op:BinOp) (a b:List UInt8):Option AV:=
 match op with
 | .eql=>some (.bool (a==b))
 | .neq=>some (.bool !(a==b))
 | .lss=>some (.bool (Op.bytesLess a b))
 | .leq=>some (.bool (Op.bytesLess a b||a==b))
 | .gtr=>some (.bool !(Op.bytesLess a b||a==b))
 | .geq=>some (.bool !(Op.bytesLess a b))
 | .add=>if a.length+b.length<2 ^ 63 then some (.str (a++b))else none
 |_=>none
def bin (op:BinOp) (t:JC) (x y:AV):Option AV:=
 match x,y with
 | .int k a,.int k' b=>if k=k' then I9 op k a b else match op with
   | .shl=>I9 .shl k a b
   | .shr=>I9 .shr k a b
   |_=>none
 | .str a,.str b=>Yl op a b
 |x,y=>match op with
  | .eql=>(AcS t x y).map .bool
  | .neq=>(AcS t x y).map fun b=>.bool !b
  |_=>none
def findKey (t:JC) (k:AV):List (AV×AV)→Nat→Option (Option (Nat×AV))
 |[],_=>some none
 |(k',v)::es,i=>match Dk t k k' with
  |some true=>some (some (i,v))
  |some false=>findKey t k es (i+1)
  |none=>none
def IV:JC→AV→Bool
 | .int,.int .. | .str,.str _| .bool,.bool _=>true
 |_,_=>false
def Ej:List AV→List (Nat×Nat×AV)→Option (List AV)
 |z,[]=>some z
 |z,(off,sz,v)::ps=>
  if v.storable&&v.cells.length==sz&&off+sz≤z.length then
   Ej (z.take off++v.cells++z.drop (off+sz)) ps
  else none
def BL (z:AV):Nat→List (Nat×AV)→Nat→List AV
 |0,_,_=>[]
 |n+1,[],i=>z::BL z n [] (i+1)
 |n+1,(j,v)::ps,i=>bif Nat.beq i j then v::BL z n ps (i+1)else z::BL z n ((j,v)::ps) (i+1)
def Ry (es:Nat) (len:Nat):List (Nat×AV)→Nat→Bool
 |[],_=>true
 |(j,v)::ps,i=>i≤j&&j<len&&v.storable&&v.cells.length==es&&Ry es len ps (j+1)
def J6 (e:Env):List (Nat×Nat×AO)→List (Nat×Nat×AV)
 |[]=>[]
 |(o,s,x)::ps=>(o,s,x.val e)::J6 e ps
def OG (e:Env):List (Nat×AO)→List (Nat×AV)
 |[]=>[]
 |(j,x)::ps=>(j,x.val e)::OG e ps
def Hf:List (Nat×AV)→Bool
 |[]=>true
 |(_,v)::ps=>v.closed&&Hf ps
def elemsOf (s:Ag) (es:Nat):AV→Option (List AV×Bool)
 | .sl _ xs=>some (xs,true)
 | .zc=>some ([],true)
 | .own o g off len=>match nth s.σ o with
   |some (.arr g' es' _ cl elems)=>if g=g'∧es=es'∧off+len≤elems.length then some (sub elems off len,cl)else none
   |_=>none
 |_=>none
def Bg (es:Nat) (xs:List AV):Prop:=∀x∈xs,x.cells.length=es
instance (es:Nat) (xs:List AV):Decidable (Bg es xs):=by unfold Bg;infer_instance
def roomy (bytes n:Nat):Prop:=n*bytes≤2 ^ 47
instance (b n:Nat):Decidable (roomy b n):=by unfold roomy;infer_instance
def push (s:Ag) (o:Obj):Ag:=⟨s.σ++[o],s.ctr+1⟩
def DY (es bytes:Nat) (s:Ag) (a:AV) (ys:List AV) (cl:Bool):Option (AV×Ag):=
 match a with
 | .sl false []=>if Bg es ys∧roomy bytes ys.length then some (.own s.σ.length s.ctr 0 ys.length,push s (.arr s.ctr es (!ys.isEmpty) cl ys))else none
 | .zc=>if Bg es ys∧roomy bytes ys.length then some (.own s.σ.length s.ctr 0 ys.length,push s (.arr s.ctr es true cl ys))else none
 | .own o g 0 len=>match nth s.σ o with
   |some (.arr g' es' nn cl' elems)=>
    if g=g'∧es=es'∧len≤elems.length∧Bg es ys∧roomy bytes (len+ys.length)then
     some (.own o s.ctr 0 (len+ys.length),⟨s.σ.set o (.arr s.ctr es (nn||!ys.isEmpty) (cl'&&cl) (elems.take len++ys)),s.ctr+1⟩)
    else none
   |_=>none
 |_=>none
def bound (x:AV):Option Nat:=match x with
 | .int _ n=>if 0≤n then some n.toNat else none
 |_=>none
def bounds (env:Env) (len:Nat) (lo hi:Option AO):Option (Nat×Nat):=
 match(match hi with|none=>some len|some x=>bound (x.val env)),(match lo with|none=>some 0|some x=>bound (x.val env))with
 |some h,some l=>if l≤h∧h≤len then some (l,h)else none
 |_,_=>none
def Dv (C:Au) (f:Nat) (args:List AV):Option AV:=
 match C f args ⟨[],0⟩with
 |some (.ok r,s')=>snap s'.σ Hw r
 |_=>none
def compact (base:Nat) (r:AV) (s:Ag):Option (AV×Ag):=
 match r with
 | .own o g off len=>if o<base then some (r,⟨s.σ.take base,s.ctr⟩)else
    match nth s.σ o with
    |some ob=>some (.own base g off len,⟨s.σ.take base++[ob],s.ctr⟩)
    |none=>none
 |r=>if r.closed then some (r,⟨s.σ.take base,s.ctr⟩)else some (r,s)
def AZ (C:Au) (m:Mode) (f:Nat) (args:List AV) (s:Ag):Option (AU×Ag):=
 match m with
 | .pure=>if DU args then(Dv C f args).map fun r=>(.ok r,s)else none
 | .borrow=>match Iu s.σ Hw args with
   |some args'=>match Dv C f args' with
    |some r=>if r.scalar then some (.ok r,s)else none
    |none=>none
   |none=>none
 | .own=>if DU args then
    match C f args ⟨[],0⟩with
    |some (.ok (.own o g off len),s')=>match nth s'.σ o with
     |some (.arr g' es nn cl elems)=>if g=g'∧off=0∧cl=true∧len=elems.length then some (.ok (.own s.σ.length s.ctr 0 len),push s (.arr s.ctr es nn cl elems))else none
     |_=>none
    |some (.ok (.sl false []),_)=>some (.ok (.own s.σ.length s.ctr 0 0),push s (.arr s.ctr 1 false true []))
    |_=>none
   else none
 | .share=>match C f args s with
   |some (.ok r,s')=>(compact s.σ.length r s').map fun(r,s)=>(.ok r,s)
   |some (.Ee v,s')=>if v.closed then some (.Ee v,⟨s'.σ.take s.σ.length,s'.ctr⟩)else none
   |none=>none
 | .keep=>C f args s
def ok (s:Ag) (v:Option AV):Option (AU×Ag):=v.map fun v=>(.ok v,s)
def Af (C:Au) (o:Cb) (env:Env) (s:Ag):Option (AU×Ag):=
 match o with
 | .Xl x=>some (.ok (x.val env),s)
 | .I5 es=>some (.ok (.own s.σ.length s.ctr 0 0),push s (.arr s.ctr es false true []))
 | .JJ off e2 es cs=>match nth cs off with
   |some (.sl false [])=>if 0<e2 then some (.ok (.ref (s.σ.length+1) (s.ctr+1) 0 0),push (push s (.arr s.ctr e2 false true [])) (.arr (s.ctr+1) es true (AV.agg (cs.set off (.own s.σ.length s.ctr 0 0))).closed [.agg (cs.set off (.own s.σ.length s.ctr 0 0))]))else none
   |_=>none
 | .pick c a b=>match c.val env with
   | .bool true=>some (.ok (a.val env),s)
   | .bool false=>some (.ok (b.val env),s)
   |_=>none
 | .alloc es z=>some (.ok (.ref s.σ.length s.ctr 0 0),push s (.arr s.ctr es true z.closed [z]))
 | .box es x=>let v:=x.val env
   if v.storable&&v.cells.length==es then some (.ok (.ref s.σ.length s.ctr 0 0),push s (.arr s.ctr es true v.closed [v]))else none
 | .build z parts=>(Ej z (J6 env parts)).map fun cs=>(.ok (.agg cs),s)
 | .lit own es z len parts=>
   let ps:=OG env parts
   if Ry es len ps 0 then
    if own then some (.ok (.own s.σ.length s.ctr 0 len),push s (.arr s.ctr es true (Hf ps) (BL z len ps 0)))
    else if len=0 then some (.ok .zc,s)
    else if Hf ps then some (.ok (.sl true (BL z len ps 0)),s)else none
   else none
 | .load sz a=>match a.val env with
   | .CO cs=>ok s (loadCells cs sz)
   | .ref o g i off=>match nth s.σ o with
     |some (.arr g' _ _ _ elems)=>if g=g' then match nth elems i with
         |some x=>ok s (loadCells (x.cells.drop off) sz)
         |none=>none
      else none
     |_=>none
   |_=>none
 | .store sz a x=>match a.val env with
   | .ref o g i off=>match nth s.σ o with
     |some (.arr g' es nn cl elems)=>if g=g' then match nth elems i with
          |some y=>
           let v:=x.val env
           if v.storable&&v.cells.length==sz&&off+sz≤es then
            some (.ok .undef,⟨s.σ.set o (.arr g' es nn (cl&&v.closed) (elems.set i (Bl y off v))),s.ctr⟩)
           else none
          |none=>none
      else none
     |_=>none
   |_=>none
 | .OD x=>match x.val env with
   | .ref o g i off=>some (.ok (.ref o g i off),s)
   | .CO cs=>some (.ok (.CO cs),s)
   | .fn f cs=>some (.ok (.fn f cs),s)
   |_=>none
 | .bin op t x y=>ok s (bin op t (x.val env) (y.val env))
 | .un op x=>match op,x.val env with
   | .not,.bool b=>some (.ok (.bool !b),s)
   | .neg,.int k n=>some (.ok (.int k (k.wrap (0-n))),s)
   |_,_=>none
 | .conv k x=>match x.val env with
   | .int _ n=>some (.ok (.int k (k.wrap n)),s)
   |_=>none
 | .convs x=>match x.val env with
   | .str b=>some (.ok (.str b),s)
   |_=>none
 | .field off sz x=>match x.val env with
   | .agg cs=>ok s (loadCells (cs.drop off) sz)
   |_=>none
 | .QE off x=>match x.val env with
   | .CO cs=>some (.ok (.CO (cs.drop off)),s)
   | .ref o g i off'=>some (.ok (.ref o g i (off'+off)),s)
   |_=>none
 | .QF es x i=>match x.val env,i.val env with
   | .sl _ xs,.int _ i=>if 0≤i then match nth xs i.toNat with
      |some v=>if v.cells.length=es then some (.ok (.CO v.cells),s)else none
      |none=>none
     else none
   | .own o g off len,.int _ i=>match nth s.σ o with
     |some (.arr g' es' _ _ _)=>if g=g'∧es=es'∧0≤i∧i<len then some (.ok (.ref o g (off+i.toNat) 0),s)else none
     |_=>none
   |_,_=>none
 | .VG es n x i=>match x.val env,i.val env with
   | .CO cs,.int _ i=>if 0≤i∧i<n then some (.ok (.CO (cs.drop (i.toNat*es))),s)else none
   | .ref o g j off,.int _ i=>if 0≤i∧i<n then some (.ok (.ref o g j (off+i.toNat*es)),s)else none
   |_,_=>none
 | .Xx x i=>match x.val env,i.val env with
   | .str bs,.int _ i=>if 0≤i then match nth bs i.toNat with
      |some b=>some (.ok (.int .u8 b.toNat),s)
      |none=>none
     else none
   |_,_=>none
 | .Abg es n sz x i=>match x.val env,i.val env with
   | .agg cs,.int _ i=>if 0≤i∧i<n then ok s (loadCells (cs.drop (i.toNat*es)) sz)else none
   |_,_=>none
 | .slice es x lo hi=>match x.val env with
   | .sl nn xs=>match bounds env xs.length lo hi with
     |some (l,h)=>if Bg es xs then some (.ok (.sl nn (sub xs l (h-l))),s)else none
     |none=>none
   | .zc=>match bounds env 0 lo hi with
     |some _=>some (.ok .zc,s)
     |none=>none
   | .own o g off len=>match nth s.σ o with
     |some (.arr g' es' _ _ _)=>if g=g'∧es=es' then match bounds env len lo hi with
          |some (l,h)=>some (.ok (.own o g (off+l) (h-l)),s)
          |none=>none
      else none
     |_=>none
   |_=>none
 | .QD x=>match x.val env with
   | .sl true _=>some (.ok .zc,s)
   | .sl false _=>some (.ok (.sl false []),s)
   | .zc=>some (.ok .zc,s)
   | .own o g 0 _=>match nth s.σ o with
     |some (.arr g' _ nn _ _)=>if g=g' then if nn then some (.ok .zc,s)else some (.ok (.sl false []),s)else none
     |_=>none
   |_=>none
 | .KH x lo hi=>match x.val env with
   | .str bs=>match bounds env bs.length lo hi with
     |some (l,h)=>some (.ok (.str ((bs.drop l).take (h-l))),s)
     |none=>none
   |_=>none
 | .len k x=>match k,x.val env with
   | .slice,.sl _ xs=>some (.ok (.int .i64 xs.length),s)
   | .slice,.zc=>some (.ok (.int .i64 0),s)
   | .slice,.own _ _ _ n=>some (.ok (.int .i64 n),s)
   | .str,.str bs=>some (.ok (.int .i64 bs.length),s)
   | .map,.Dp=>some (.ok (.int .i64 0),s)
   | .map,.map o g=>match nth s.σ o with
     |some (.mp g' _ ents)=>if g=g' then some (.ok (.int .i64 ents.length),s)else none
     |_=>none
   | .map,.fmap ents=>some (.ok (.int .i64 ents.length),s)
   | .func,.sl false []=>some (.ok (.int .i64 0),s)
   |_,_=>none
 | .min x y=>match x.val env,y.val env with
   | .int k a,.int _ b=>some (.ok (.int k (if b<a then b else a)),s)
   |_,_=>none
 | .max x y=>match x.val env,y.val env with
   | .int k a,.int _ b=>some (.ok (.int k (if b>a then b else a)),s)
   |_,_=>none
 | .append es bytes a x=>match elemsOf s es (x.val env)with
   |some (ys,cl)=>(DY es bytes s (a.val env) ys cl).map fun(v,s)=>(.ok v,s)
   |none=>none
 | .He es bytes z len cap=>match len.val env,cap.val env with
   | .int _ l,.int _ c=>if 0≤l∧l≤c∧roomy bytes c.toNat then
      some (.ok (.own s.σ.length s.ctr 0 l.toNat),push s (.arr s.ctr es true z.closed (List.replicate l.toNat z)))
     else none
   |_,_=>none
 | .NH=>some (.ok (.map s.σ.length s.ctr),push s (.mp s.ctr true []))
 | .lookup t z P9 m k=>match(match m.val env with
    | .Dp=>if IV t (k.val env)then some none else none
    | .map o g=>match nth s.σ o with
      |some (.mp g' _ ents)=>if g=g'∧IV t (k.val env)then findKey t (k.val env) ents 0 else none
      |_=>none
    | .fmap ents=>if IV t (k.val env)then findKey t (k.val env) ents 0 else none
    |_=>none)with
   |some r=>
    let v:=match r with|some (_,v)=>v|none=>z
    some (.ok (if P9 then .Du [v,.bool r.isSome]else v),s)
   |none=>none
 | .mapset t m k v=>match m.val env with
   | .map o g=>match nth s.σ o with
     |some (.mp g' cl ents)=>if g=g'∧IV t (k.val env)∧(v.val env).storable then
          match findKey t (k.val env) ents 0 with
          |some (some (i,_))=>some (.ok .undef,⟨s.σ.set o (.mp g' (cl&&(v.val env).closed) (ents.set i (k.val env,v.val env))),s.ctr⟩)
          |some none=>some (.ok .undef,⟨s.σ.set o (.mp g' (cl&&(v.val env).closed) (ents++[(k.val env,v.val env)])),s.ctr⟩)
          |none=>none
      else none
     |_=>none
   |_=>none
 | .delete t m k=>match m.val env with
   | .map o g=>match nth s.σ o with
     |some (.mp g' cl ents)=>if g=g'∧IV t (k.val env)then
          match findKey t (k.val env) ents 0 with
          |some (some (i,_))=>some (.ok .undef,⟨s.σ.set o (.mp g' cl (ents.eraseIdx i)),s.ctr⟩)
          |some none=>some (.ok .undef,s)
          |none=>none
      else none
     |_=>none
   |_=>none
 | .clear es x=>match x.val env with
   | .own o g off len=>match nth s.σ o with
     |some (.arr g' es' nn cl elems)=>if g=g'∧es=es'∧off+len≤elems.length then
          some (.ok .undef,⟨s.σ.set o (.arr g' es' nn cl (if len=0 then elems else elems.take off)),s.ctr⟩)
      else none
     |_=>none
   |_=>none
 | .ext x i=>match x.val env with
   | .Du cs=>ok s (nth cs i)
   |_=>none
 | .Abf f caps=>some (.ok (.fn f (vals env caps)),s)
 | .AdG t x=>let v:=x.val env
   if v.storable then some (.ok (.iface t v),s)else none
 | .panic x=>match x.val env with
   | .iface t v=>some (.Ee (.iface t v),s)
   |_=>none
 | .call m f args=>AZ C m f (vals env args) s
 | .Gx m x args=>match x.val env with
   | .fn f caps=>AZ C m f (vals env args++caps) s
   |_=>none
def put (d:Option Nat) (v:AV) (env:Env):Env:=match d with
 |some t=>(t,v)::env
 |none=>env
def wanted (g:Option (Nat×Bool)) (env:Env):Option Bool:=match g with
 |none=>some true
 |some (t,b)=>match env.get t with
  | .bool b'=>some (b'==b)
  | .undef=>some false
  |_=>none
def Di (C:Au):List Aw→Env→Ag→Option (Ar×Env×Ag)
 |[],env,s=>some (.normal,env,s)
 |o::os,env,s=>match wanted o.guard env with
  |none=>none
  |some false=>Di C os (put o.dst .undef env) s
  |some true=>match Af C o.op env s with
   |some (.ok v,s')=>Di C os (put o.dst v env) s'
   |some (.Ee v,s')=>some (.Ee v,env,s')
   |none=>none
def Lu:List AV→Nat→Option (Nat×Nat×Nat×Nat×Nat)
 |[],_=>none
 | .own o g off len::_,k=>some (k,o,g,off,len)
 |_::cs,k=>Lu cs (k+1)
def EZ:List Nat→Env→Ag→Option (Env×Ag)
 |[],env,s=>some (env,s)
 |t::ts,env,s=>match env.get t with
  | .own o g off len=>match nth s.σ o with
    |some (.arr g' _ nn true elems)=>if g=g'∧off+len≤elems.length then EZ ts ((t,.sl nn (sub elems off len))::env) ⟨s.σ.set o .dead,s.ctr⟩else none
    |_=>none
  | .ref o g i off=>match nth s.σ o with
    |some (.arr g' _ _ true elems)=>if g=g' then match nth elems i with
         |some x=>EZ ts ((t,.CO (x.cells.drop off))::env) ⟨s.σ.set o .dead,s.ctr⟩
         |none=>none
     else none
    |some (.arr g' _ _ false [x])=>match Lu x.cells 0 with
     |some (k,o2,g2,a2,n2)=>match nth s.σ o2 with
      |some (.arr g3 _ nn3 true Il)=>if g=g'∧i=0∧off=0∧g2=g3∧o2≠o∧a2+n2≤Il.length∧DU (x.cells.set k (.sl nn3 (sub Il a2 n2)))=true then EZ ts ((t,.CO (x.cells.set k (.sl nn3 (sub Il a2 n2))))::env) ⟨(s.σ.set o2 .dead).set o .dead,s.ctr⟩else none
      |_=>none
     |none=>none
    |_=>none
  | .map o g=>match nth s.σ o with
    |some (.mp g' true ents)=>if g=g'∧QT ents=true then EZ ts ((t,.fmap ents)::env) ⟨s.σ.set o .dead,s.ctr⟩else none
    |_=>none
  | .sl nn xs=>EZ ts ((t,.sl nn xs)::env) s
  | .zc=>EZ ts ((t,.zc)::env) s
  |_=>none
def commit (env:Env):List Nat→Env
 |[]=>[]
 |t::ts=>(t,env.get t)::commit env ts
def kept (k len:Nat):Nat:=bif Nat.blt k 1000 then k else len-(k-1000)
def truncate (t:Option Nat) (s:Ag):Ag:=match t with
 |none=>s
 |some k=>⟨s.σ.take (kept k s.σ.length),s.ctr⟩
def iter (f:Env→Ag→Option (Ar×Env×Ag)):Nat→Env→Ag→Option (Ar×Env×Ag)
 |0,_,_=>none
 |n+1,env,s=>match f env s with
  |some (.normal,env',s')=>iter f n env' s'
  |r=>r
inductive Cls where
 |e|r|w|a
 deriving DecidableEq
def Cb.cls:Cb→Option Cls
 | .Xl _| .pick .. | .build .. | .bin .. | .un .. | .conv .. | .convs _| .field .. | .QE .. | .VG .. | .Xx .. | .Abg .. | .KH .. | .min .. | .max .. | .ext .. | .Abf .. | .AdG .. | .OD _=>some .e
 | .load .. | .QF .. | .slice .. | .QD _| .len .. | .lookup ..=>some .r
 | .store .. | .mapset .. | .delete .. | .clear ..=>some .w
 | .I5 _| .alloc .. | .box .. | .He .. | .NH| .append ..=>some .a
 | .lit own ..=>some (bif own then .a else .e)
 | .call m ..=>match m with
   | .pure=>some .e
   | .own=>some .a
   |_=>none
 | .Gx m ..=>match m with
   | .pure=>some .e
   | .own=>some .a
   |_=>none
 | .panic _| .JJ ..=>none
def AV.obj:AV→List Nat
 | .own o _ _ _=>[o]
 | .ref o _ _ _=>[o]
 | .map o _=>[o]
 |_=>[]
def WJ:Option AO→List AO
 |some x=>[x]
 |none=>[]
def Cb.BK:Cb→List AO
 | .Xl x| .box _ x| .load _ x| .OD x| .un _ x| .conv _ x| .convs x| .field _ _ x| .QE _ x| .QD x| .len _ x| .ext x _| .AdG _ x| .panic x| .clear _ x=>[x]
 | .I5 _| .alloc .. | .JJ .. | .NH=>[]
 | .pick c a b=>[c,a,b]
 | .build _ ps=>ps.map fun(_,_,x)=>x
 | .lit _ _ _ _ ps=>ps.map fun(_,x)=>x
 | .store _ a x| .bin _ _ a x| .QF _ a x| .VG _ _ a x| .Xx a x| .Abg _ _ _ a x| .min a x| .max a x| .append _ _ a x| .He _ _ _ a x| .lookup _ _ _ a x| .delete _ a x=>[a,x]
 | .slice _ x lo hi| .KH x lo hi=>x::(WJ lo++WJ hi)
 | .mapset _ m k v=>[m,k,v]
 | .Abf _ xs| .call _ _ xs=>xs
 | .Gx _ x xs=>x::xs
def Dy (env:Env):List AO→List Nat
 |[]=>[]
 |x::xs=>(x.val env).obj++Dy env xs
def Cb.reads (o:Cb) (r:Nat) (env:Env):List Nat:=match o.cls with
 |some .r|some .w=>Dy env o.BK
 |some .a=>r::Dy env o.BK
 |_=>[]
def Cb.writes (o:Cb) (r:Nat) (env:Env):List Nat:=match o with
 | .store _ a _=>(a.val env).obj
 | .mapset _ m _ _=>(m.val env).obj
 | .delete _ m _=>(m.val env).obj
 | .clear _ x=>(x.val env).obj
 | .append _ _ a _=>r::(a.val env).obj
 |o=>match o.cls with
  |some .a=>[r]
  |_=>[]
def AV.moved (t g:Nat):AV→AV
 | .own _ _ off len=>.own t g off len
 | .ref _ _ i off=>.ref t g i off
 | .map _ _=>.map t g
 |v=>v
def Obj.O9 (g:Nat):Obj→Obj
 | .arr _ es nn cl elems=>.arr g es nn cl elems
 | .mp _ cl ents=>.mp g cl ents
 | .raw _ x=>.raw g x
 | .dead=>.dead
def AV.idx:AV→Nat
 | .own o _ _ _=>o
 | .ref o _ _ _=>o
 | .map o _=>o
 |_=>0
def Ij (C:Au) (o:Cb) (r g:Nat) (env:Env) (s:Ag):Option (AV×Option (Nat×Obj)×Nat):=
 match o.cls,Af C o env s with
 |some .e,some (.ok v,_)=>some (v,none,0)
 |some .r,some (.ok v,_)=>some (v,none,0)
 |some .w,some (.ok v,s')=>match o.writes r env with
  |[t]=>match nth s'.σ t with
   |some ob=>some (v,some (t,ob),0)
   |none=>none
  |_=>none
 |some .a,some (.ok v,s')=>match nth s'.σ v.idx with
  |some ob=>if v.idx<s.σ.length then some (v.moved v.idx g,some (v.idx,ob.O9 g),1)
   else match nth s.σ r with
   |some .dead=>some (v.moved r g,some (r,ob.O9 g),1)
   |_=>none
  |none=>none
 |_,_=>none
structure Eff where
 dst:Option Nat
 v:AV
 rd:List Nat
 wr:List Nat
 upd:Option (Nat×Obj)
 bump:Nat
 deriving Inhabited
def EN (u:Option (Nat×Obj)) (b:Nat) (s:Ag):Ag:=match u with
 |some (t,ob)=>⟨s.σ.set t ob,s.ctr+b⟩
 |none=>⟨s.σ,s.ctr+b⟩
def rank (o:Cb):Nat:=match o.cls with
 |some .a=>1
 |_=>0
def G5 (C:Au):List Aw→Nat→Nat→Env→Ag→Option (List Eff)
 |[],_,_,_,_=>some []
 |o::os,r,g,env,s=>match wanted o.guard env with
  |none=>none
  |some false=>match G5 C os (r+rank o.op) (g+1) (put o.dst .undef env) s with
   |some es=>some (⟨o.dst,.undef,[],[],none,0⟩::es)
   |none=>none
  |some true=>match Ij C o.op r g env s with
   |some (v,u,b)=>match G5 C os (r+rank o.op) (g+1) (put o.dst v env) (EN u b s)with
    |some es=>some (⟨o.dst,v,o.op.reads r env,o.op.writes r env,u,b⟩::es)
    |none=>none
   |none=>none
def MO:List Eff→Env→Env
 |[],env=>env
 |e::es,env=>MO es (put e.dst e.v env)
def KP:List Eff→Ag→Ag
 |[],s=>s
 |e::es,s=>KP es (EN e.upd e.bump s)
def DJ (x:Nat):List Nat→Bool
 |[]=>false
 |y::ys=>bif Nat.beq x y then true else DJ x ys
def OH:List Nat→List Nat→Bool
 |[],_=>true
 |x::xs,ys=>bif DJ x ys then false else OH xs ys
def VW (a b:Eff):Bool:=OH a.wr b.rd&&(OH a.wr b.wr&&OH a.rd b.wr)
def Jw (es:List Eff):List (Nat×Nat)→Bool
 |[]=>true
 |(i,j)::ps=>match nth es i,nth es j with
  |some a,some b=>VW a b&&Jw es ps
  |_,_=>false
def ranks:List Aw→Nat
 |[]=>0
 |o::os=>rank o.op+ranks os
def KR (C:Au) (m:Nat) (un:List (Nat×Nat)) (ops:List Aw) (env:Env) (s:Ag):Option (Env×Ag):=
 match G5 C (ops.take m) s.σ.length s.ctr env ⟨s.σ++List.replicate (ranks (ops.take m)) .dead,s.ctr+m⟩with
 |some es=>if Jw es un then some (MO es env,KP es ⟨s.σ++List.replicate (ranks (ops.take m)) .dead,s.ctr+m⟩)else none
 |none=>none
def Cb.E5:Cb→Bool
 | .I5 _| .alloc .. | .JJ .. | .box .. | .store .. | .append .. | .He .. | .NH| .mapset .. | .delete .. | .clear .. | .panic _=>false
 | .lit own ..=>!own
 | .call m ..=>m==.pure||m==.borrow
 | .Gx m ..=>m==.pure||m==.borrow
 |_=>true
def flt (o:Aw):Bool:=match o.op.cls with
 |some .e=>o.op.E5
 |_=>false
def OJ:List AV→List AV→Bool
 |[],[]=>true
 | .str a::l,.str b::r=>decide (a=b)&&OJ l r
 |_,_=>false
def Gp:AV→AV→Bool
 | .int k x,.int k' x'=>decide (k=k')&&decide (x=x')
 | .sl b l,.sl b' l'=>decide (b=b')&&OJ l l'
 | .own o g i n,.own o' g' i' n'=>Nat.beq o o'&&Nat.beq g g'&&Nat.beq i i'&&Nat.beq n n'
 | .ref o g i n,.ref o' g' i' n'=>Nat.beq o o'&&Nat.beq g g'&&Nat.beq i i'&&Nat.beq n n'
 | .map o g,.map o' g'=>Nat.beq o o'&&Nat.beq g g'
 |_,_=>false
def JU (C:Au) (op:Cb) (env:Env) (v:AV):List Ag→Bool
 |[]=>true
 |S::r=>match Af C op env S with
  |some (.ok u,_)=>Gp u v&&JU C op env v r
  |_=>false
def JV (C:Au) (S:Ag):List (Cb×Env×AV)→Bool
 |[]=>true
 |(op,env,v)::r=>match Af C op env S with
  |some (.ok u,_)=>Gp u v&&JV C S r
  |_=>false
def Eh (C:Au) (E:List Nat):List Aw→Nat→Env→Ag→Bool
 |[],_,_,_=>true
 |o::os,i,env,s=>if DJ i E then match wanted o.guard env with
   |some true=>match Af C o.op env s with
    |some (.ok v,_)=>flt o&&Eh C E os (i+1) (put o.dst v env) s
    |_=>false
   |some false=>Eh C E os (i+1) (put o.dst .undef env) s
   |none=>false
  else Eh C E os (i+1) env s
def FM (C:Au) (m:Nat) (W pc:List Nat):List Aw→Nat→Env→Ag→List (Cb×Env×AV)→List Ag→Option (Ar×Env×Ag)
 |[],_,env,s,_,_=>some (.normal,env,s)
 |o::os,i,env,s,pend,past=>match wanted o.guard env with
  |none=>none
  |some false=>FM C m W pc os (i+1) (put o.dst .undef env) s pend past
  |some true=>match Af C o.op env s with
   |some (.ok v,s1)=>
    if DJ i W then
          if o.op.E5&&JU C o.op env v past then FM C m W pc os (i+1) (put o.dst v env) s ((o.op,env,v)::pend) past else none
    else if flt o||Nat.blt i m then FM C m W pc os (i+1) (put o.dst v env) s pend past
    else if JV C s1 pend then FM C m W pc os (i+1) (put o.dst v env) s1 pend (s::past)else none
   |some (.Ee v,s1)=>match pc with
    |p::E=>if Nat.beq i p&&!(DJ i W||(flt o||Nat.blt i m))&&Eh C E os (i+1) env s then some (.Ee v,[],s1)else none
    |[]=>none
   |none=>none
def EG (C:Au) (N:Nat):AA→Env→Ag→Option (Ar×Env×Ag)
 | .skip,env,s=>some (.normal,env,s)
 | .region _ JD ops live trunc,env,s=>match EZ JD env s with
   |some (env,s)=>match Di C ops env s with
    |some (.normal,env,s)=>some (.normal,commit env live,truncate trunc s)
    |r=>r
   |none=>none
 | .par m un JD ops live trunc,env,s=>match EZ JD env s with
   |some (env,s)=>match KR C m un ops env s with
    |some (env,s)=>match Di C (ops.drop m) env s with
     |some (.normal,env,s)=>some (.normal,commit env live,truncate trunc s)
     |r=>r
    |none=>none
   |none=>none
 | .mix m W pc JD ops live trunc,env,s=>match EZ JD env s with
   |some (env,s)=>match FM C m W pc ops 0 env s [] []with
    |some (.normal,env,s)=>some (.normal,commit env live,truncate trunc s)
    |r=>r
   |none=>none
 | .seq a b,env,s=>match EG C N a env s with
   |some (.normal,env',s')=>EG C N b env' s'
   |r=>r
 | .cond c a b,env,s=>match c.val env with
   | .bool true=>EG C N a env s
   | .bool false=>EG C N b env s
   |_=>none
 | .block id a,env,s=>match EG C N a env s with
   |some (.exit j,env',s')=>if j=id then some (.normal,env',s')else some (.exit j,env',s')
   |r=>r
 | .loop live a,env,s=>iter (fun env s=>EG C N a (commit env live) s) N env s
 | .exit id,env,s=>some (.exit id,env,s)
 | .ret,env,s=>some (.ret,env,s)
inductive Sj where
 |tmp (t:Nat)
 |cell (t:Nat) (sz:Option Nat)
 deriving Inhabited
structure F9 where
 np:Nat
 body:AA
 results:List Sj
 deriving Inhabited
structure DFn where
 np:Nat
 ZQ:AA
 pre2:AA
 post:AA
 tcl:Nat
 cell:Nat
 tag:Nat
 results:List Sj
 deriving Inhabited
inductive GY where
 |code (fn:F9)
 |ext (spec:List AV→Ag→Option (AU×Ag))
 |dfr (d:DFn)
def OM (env:Env) (s:Ag):Sj→Option AV
 | .tmp t=>some (env.get t)
 | .cell t sz=>match env.get t with
   | .ref o g i off=>match nth s.σ o with
     |some (.arr g' _ _ _ elems)=>if g=g' then match nth elems i with
         |some x=>loadCells (x.cells.drop off) sz
         |none=>none
      else none
     |_=>none
   |_=>none
def FH (env:Env) (s:Ag):List Sj→Option (List AV)
 |[]=>some []
 |r::rs=>match OM env s r,FH env s rs with
  |some v,some vs=>some (v::vs)
  |_,_=>none
def EF:List AV→AV
 |[v]=>v
 |vs=>.Du vs
def params:List AV→Nat→Env
 |[],_=>[]
 |v::vs,i=>(i,v)::params vs (i+1)
def evF (C:Au) (N:Nat) (fn:F9) (args:List AV) (s:Ag):Option (AU×Ag):=
 match EG C N fn.body (params args 0) s with
 |some (.normal,env,s')=>(FH env s' fn.results).map fun vs=>(.ok (EF vs),s')
 |some (.ret,env,s')=>(FH env s' fn.results).map fun vs=>(.ok (EF vs),s')
 |some (.Ee v,_,s')=>some (.Ee v,s')
 |_=>none
def XV (d:DFn) (env:Env) (s:Ag):Option (AU×Ag):=(FH env s d.results).map fun vs=>(.ok (EF vs),s)
def Q5 (C:Au) (d:DFn) (c v:AV) (env:Env) (s:Ag):Option (AU×Ag):=match v with
 | .iface t (.int k n)=>if t=d.tag then
    match Af C (.store 1 (.cst c) (.cst (.int k n))) [] s with
    |some (.ok _,s')=>XV d env s'
    |_=>none
   else none
 |_=>none
def evD (C:Au) (N:Nat) (d:DFn) (args:List AV) (s:Ag):Option (AU×Ag):=
 match EG C N (.seq d.ZQ d.pre2) (params args 0) s with
 |some (.ret,env,s1)=>XV d env s1
 |some (.Ee v,_,s1)=>some (.Ee v,s1)
 |some (.normal,env,s1)=>match env.get d.tcl with
  | .junk=>match EG C N d.post env s1 with
    |some (.normal,Dc,s2)=>XV d Dc s2
    |some (.ret,Dc,s2)=>XV d Dc s2
    |some (.Ee v,Dc,s2)=>Q5 C d (env.get d.cell) v Dc s2
    |_=>none
  |_=>none
 |_=>none
def run (AP:Nat→Option GY):Nat→Au
 |0=>fun _ _ _=>none
 |n+1=>fun f args s=>match AP f with
  |some (.code fn)=>if args.length=fn.np then evF (run AP n) n fn args s else none
  |some (.ext sp)=>sp args s
  |some (.dfr d)=>if args.length=d.np then evD (run AP n) n d args s else none
  |none=>none
end AI
end Go.Proofs.YtjjhejbffgaabaaGreatDoor
