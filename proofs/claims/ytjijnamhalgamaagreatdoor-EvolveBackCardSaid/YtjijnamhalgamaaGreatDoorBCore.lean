/- The abstract interpreter: values without a heap, operations, the evaluator and its weakest-precondition form. Program-independent. -/
import GoSem.Dispatch
import Derived.KernelRfl
namespace Go.Proofs.YtjijnamhalgamaaGreatDoor
namespace AI
inductive AV where
 |bool (b:Bool)
 |int (k:IntKind) (n:Int)
 |str (s:List UInt8)
 |sl (nn:Bool) (xs:List AV)
 |zc
 |own (o g off len:Nat)
 |agg (cs:List AV)
 |BD (cs:List AV)
 |ref (o g i off:Nat)
 |CJ (cs:List AV)
 |fn (f:Nat) (caps:List AV)
 |map (o g:Nat)
 |fmap (ents:List (AV×AV))
 |iface (t:Nat) (v:AV)
 |JO
 |Dv
 |Gn
 |Ii
 |undef
 |junk
 deriving Inhabited
def AV.cells:AV→List AV
 | .agg cs=>cs
 |v=>[v]
def AV.one:AV→Bool
 | .agg _| .BD _| .undef| .junk=>false
 |_=>true
def AV.storable:AV→Bool
 | .BD _| .undef| .junk=>false
 |_=>true
mutual
def AV.closed:AV→Bool
 | .own .. | .ref .. | .map ..=>false
 | .agg cs=>DK cs
 | .BD cs=>DK cs
 | .fn _ cs=>DK cs
 | .iface _ v=>v.closed
 |_=>true
def DK:List AV→Bool
 |[]=>true
 |v::vs=>v.closed&&DK vs
end
mutual
def AV.scalar:AV→Bool
 | .bool _| .int .. | .str _| .JO| .Dv| .Gn| .Ii| .undef=>true
 | .sl false []=>true
 | .agg cs=>Lj cs
 | .BD cs=>Lj cs
 |_=>false
def Lj:List AV→Bool
 |[]=>true
 |v::vs=>v.scalar&&Lj vs
end
inductive Obj where
 |arr (g es:Nat) (nn cl:Bool) (elems:List AV)
 |mp (g:Nat) (cl:Bool) (ents:List (AV×AV))
 |raw (g:Nat) (x:Go.Obj)
 |dead
 deriving Inhabited
structure Am where
 σ:List Obj
 ctr:Nat
 deriving Inhabited
abbrev Env:=List (Nat×AV)
def Env.get:Env→Nat→AV
 |[],_=>.junk
 |(k,v)::e,n=>bif Nat.beq k n then v else Env.get e n
inductive AO where
 |tmp (t:Nat)
 |cst (v:AV)
 deriving Inhabited
def AO.val (e:Env):AO→AV
 | .tmp t=>e.get t
 | .cst v=>v
def vals (e:Env):List AO→List AV
 |[]=>[]
 |x::xs=>x.val e::vals e xs
def nth {α:Type}:List α→Nat→Option α
 |[],_=>none
 |x::_,0=>some x
 |_::xs,n+1=>nth xs n
inductive Mode where
 |pure|borrow|share|own|keep
 deriving DecidableEq,Repr,Inhabited
inductive Nl where
 |bool|int|str|slice|ptr|func|map
 |flat (ks:List Nl)
 |other
 deriving Inhabited
inductive CG where
 |mov (x:AO)
 |JM (es:Nat)
 |KP (off e2 es:Nat) (cs:List AV)
 |pick (c a b:AO)
 |alloc (es:Nat) (z:AV)
 |box (es:Nat) (x:AO)
 |build (z:List AV) (parts:List (Nat×Nat×AO))
 |lit (own:Bool) (es:Nat) (z:AV) (len:Nat) (parts:List (Nat×AO))
 |load (sz:Option Nat) (a:AO)
 |store (sz:Nat) (a x:AO)
 |Qv (x:AO)
 |bin (op:BinOp) (t:Nl) (x y:AO)
 |un (op:UnOp) (x:AO)
 |conv (k:IntKind) (x:AO)
 |convs (x:AO)
 |field (off:Nat) (sz:Option Nat) (x:AO)
 |SY (off:Nat) (x:AO)
 |S9 (es:Nat) (x i:AO)
 |Yh (es n:Nat) (x i:AO)
 |Y7 (x i:AO)
 |Aev (es n:Nat) (sz:Option Nat) (x i:AO)
 |slice (es:Nat) (x:AO) (lo hi:Option AO)
 |Si (x:AO)
 |LW (x:AO) (lo hi:Option AO)
 |len (k:Nl) (x:AO)
 |min (x y:AO)
 |max (x y:AO)
 |append (es bytes:Nat) (s x:AO)
 |IQ (es bytes:Nat) (z:AV) (len cap:AO)
 |Pm
 |lookup (t:Nl) (z:AV) (ok:Bool) (m k:AO)
 |mapset (t:Nl) (m k v:AO)
 |delete (t:Nl) (m k:AO)
 |clear (es:Nat) (x:AO)
 |ext (x:AO) (i:Nat)
 |Ac8 (f:Nat) (caps:List AO)
 |Ag8 (t:Nat) (x:AO)
 |panic (x:AO)
 |call (m:Mode) (f:Nat) (args:List AO)
 |Ih (m:Mode) (x:AO) (args:List AO)
 deriving Inhabited
structure AX where
 dst:Option Nat
 op:CG
 guard:Option (Nat×Bool)
 deriving Inhabited
inductive Bg where
 |skip
 |region (head:Option Nat) (La:List Nat) (ops:List AX) (live:List Nat) (trunc:Option Nat)
 |par (m:Nat) (un:List (Nat×Nat)) (La:List Nat) (ops:List AX) (live:List Nat) (trunc:Option Nat)
 |mix (m:Nat) (W pc:List Nat) (La:List Nat) (ops:List AX) (live:List Nat) (trunc:Option Nat)
 |seq (a b:Bg)
 |cond (c:AO) (a b:Bg)
 |block (id:Nat) (a:Bg)
 |loop (live:List Nat) (a:Bg)
 |exit (id:Nat)
 |ret
 deriving Inhabited
inductive AQ where
 |normal
 |exit (id:Nat)
 |ret
 |Dq (v:AV)
 deriving Inhabited
inductive AB where
 |ok (v:AV)
 |Dq (v:AV)
 deriving Inhabited
abbrev AL:=Nat→List AV→Am→Option (AB×Am)
def sub (xs:List AV) (off len:Nat):List AV:=(xs.drop off).take len
mutual
def snap (σ:List Obj):Nat→AV→Option AV
 |0,_=>none
 |n+1,v=>match v with
  | .own o g off len=>match nth σ o with
    |some (.arr g' _ nn cl elems)=>
     if g=g'∧off+len≤elems.length then
          if cl then some (.sl nn (sub elems off len))else(He σ n (sub elems off len)).map (.sl nn)
     else none
    |_=>none
  | .ref o g i off=>match nth σ o with
    |some (.arr g' _ _ cl elems)=>
     if g=g' then
          match nth elems i with
          |some x=>if cl then some (.CJ (x.cells.drop off))else(He σ n (x.cells.drop off)).map .CJ
          |none=>none
     else none
    |_=>none
  | .map o g=>match nth σ o with
    |some (.mp g' _ ents)=>if g=g' then(Vj σ n ents).map .fmap else none
    |_=>none
  | .agg cs=>(He σ n cs).map .agg
  | .BD cs=>(He σ n cs).map .BD
  | .fn f cs=>(He σ n cs).map (.fn f)
  | .iface t v=>(snap σ n v).map (.iface t)
  |v=>some v
def He (σ:List Obj):Nat→List AV→Option (List AV)
 |_,[]=>some []
 |0,_::_=>none
 |n+1,v::vs=>match snap σ n v,He σ n vs with
  |some a,some b=>some (a::b)
  |_,_=>none
def Vj (σ:List Obj):Nat→List (AV×AV)→Option (List (AV×AV))
 |_,[]=>some []
 |0,_::_=>none
 |n+1,(k,v)::es=>match snap σ n v,Vj σ n es with
  |some a,some b=>if k.closed then some ((k,a)::b)else none
  |_,_=>none
end
def XE:List (AV×AV)→Bool
 |[]=>true
 |(k,_)::es=>k.closed&&XE es
def EK:Nat:=1000000
def loadCells (cs:List AV):Option Nat→Option AV
 |none=>nth cs 0
 |some n=>if n≤cs.length then some (.agg (cs.take n))else none
def BF (x:AV) (off:Nat) (y:AV):AV:=
 if off=0∧y.cells.length=x.cells.length then y else .agg (x.cells.take off++y.cells++x.cells.drop (off+y.cells.length))
def Dh:Nl→AV→AV→Option Bool
 | .int,.int k a,.int k' b=>if k=k' then some (a==b)else none
 | .bool,.bool a,.bool b=>some (a==b)
 | .str,.str a,.str b=>some (a==b)
 |_,_,_=>none
def Jg:List Nl→List AV→List AV→Option Bool
 |[],[],[]=>some true
 |k::ks,x::xs,y::ys=>match Dh k x y with
  |some true=>Jg ks xs ys
  |some false=>some false
  |none=>none
 |_,_,_=>none
def Uy (t:Nl) (x y:AV):Option Bool:=
 match t with
 | .flat ks=>match x,y with
   | .agg xs,.agg ys=>Jg ks xs ys
   |_,_=>none
 | .slice=>match x,y with
   | .sl nn _,.sl false []=>some (!nn)
   | .zc,.sl false []=>some false
   | .sl false [],.sl nn _=>some (!nn)
   |_,_=>none
 | .ptr=>match x,y with
   | .JO,.JO=>some true
   | .CJ _,.JO=>some false
   | .ref ..,.JO=>some false
   |_,_=>none
 | .func=>match x,y with
   | .Gn,.Gn=>some true
   | .fn ..,.Gn=>some false
   |_,_=>none
 | .map=>match x,y with
   | .Dv,.Dv=>some true
   | .map ..,.Dv=>some false
   |_,_=>none
 |t=>Dh t x y
def JQ (op:BinOp) (k:IntKind) (a b:Int):Option AV:=
 match op with
 | .add=>some (.int k (k.wrap (a+b)))
 | .sub=>some (.int k (k.wrap (a-b)))
 | .mul=>some (.int k (k.wrap (a*b)))
 | .quo=>if b=0 then none else some (.int k (k.wrap (a.tdiv b)))
 | .rem=>if b=0 then none else some (.int k (a.tmod b))
 | .eql=>some (.bool (a==b))
 | .neq=>some (.bool (a != b))
 | .lss=>some (.bool (decide (a<b)))
 | .leq=>some (.bool (decide (a≤b)))
 | .gtr=>some (.bool (decide (a>b)))
 | .geq=>some (.bool (decide (a≥b)))
 | .and=>some (.int k (k.wrap (BitVec.ofInt k.bits a &&& BitVec.ofInt k.bits b).toNat))
 | .or=>some (.int k (k.wrap (BitVec.ofInt k.bits a ||| BitVec.ofInt k.bits b).toNat))
 | .xor=>some (.int k (k.wrap (BitVec.ofInt k.bits a ^^^ BitVec.ofInt k.bits b).toNat))
 | .shl=>if b<0 then none else some (.int k (k.wrap (a*2 ^ (min b.toNat k.bits))))
 | .shr=>if b<0 then none else some (.int k (a.fdiv (2 ^ (min b.toNat k.bits))))
 |_=>none
def Y5 (op:BinOp) (a b:List UInt8):Option AV:=
 match op with
 | .eql=>some (.bool (a==b))
 | .neq=>some (.bool !(a==b))
 | .lss=>some (.bool (Op.bytesLess a b))
 | .leq=>some (.bool (Op.bytesLess a b||a==b))
 | .gtr=>some (.bool !(Op.bytesLess a b||a==b))
 | .geq=>some (.bool !(Op.bytesLess a b))
 | .add=>if a.length+b.length<2 ^ 63 then some (.str (a++b))else none
 |_=>none
def bin (op:BinOp) (t:Nl) (x y:AV):Option AV:=
 match x,y with
 | .int k a,.int k' b=>if k=k' then JQ op k a b else match op with
   | .shl=>JQ .shl k a b
   | .shr=>JQ .shr k a b
   |_=>none
 | .str a,.str b=>Y5 op a b
 |x,y=>match op with
  | .eql=>(Uy t x y).map .bool
  | .neq=>(Uy t x y).map fun b=>.bool !b
  |_=>none
def findKey (t:Nl) (k:AV):List (AV×AV)→Nat→Option (Option (Nat×AV))
 |[],_=>some none
 |(k',v)::es,i=>match Dh t k k' with
  |some true=>some (some (i,v))
  |some false=>findKey t k es (i+1)
  |none=>none
def JB:Nl→AV→Bool
 | .int,.int .. | .str,.str _| .bool,.bool _=>true
 |_,_=>false
def Et:List AV→List (Nat×Nat×AV)→Option (List AV)
 |z,[]=>some z
 |z,(off,sz,v)::ps=>
  if v.storable&&v.cells.length==sz&&off+sz≤z.length then
   Et (z.take off++v.cells++z.drop (off+sz)) ps
  else none
def BH (z:AV):Nat→List (Nat×AV)→Nat→List AV
 |0,_,_=>[]
 |n+1,[],i=>z::BH z n [] (i+1)
 |n+1,(j,v)::ps,i=>bif Nat.beq i j then v::BH z n ps (i+1)else z::BH z n ((j,v)::ps) (i+1)
def Sr (es:Nat) (len:Nat):List (Nat×AV)→Nat→Bool
 |[],_=>true
 |(j,v)::ps,i=>i≤j&&j<len&&v.storable&&v.cells.length==es&&Sr es len ps (j+1)
def KO (e:Env):List (Nat×Nat×AO)→List (Nat×Nat×AV)
 |[]=>[]
 |(o,s,x)::ps=>(o,s,x.val e)::KO e ps
def Qn (e:Env):List (Nat×AO)→List (Nat×AV)
 |[]=>[]
 |(j,x)::ps=>(j,x.val e)::Qn e ps
def IL:List (Nat×AV)→Bool
 |[]=>true
 |(_,v)::ps=>v.closed&&IL ps
def elemsOf (s:Am) (es:Nat):AV→Option (List AV×Bool)
 | .sl _ xs=>some (xs,true)
 | .zc=>some ([],true)
 | .own o g off len=>match nth s.σ o with
   |some (.arr g' es' _ cl elems)=>if g=g'∧es=es'∧off+len≤elems.length then some (sub elems off len,cl)else none
   |_=>none
 |_=>none
def Bc (es:Nat) (xs:List AV):Prop:=∀x∈xs,x.cells.length=es
instance (es:Nat) (xs:List AV):Decidable (Bc es xs):=by unfold Bc;infer_instance
def roomy (bytes n:Nat):Prop:=n*bytes≤2 ^ 47
instance (b n:Nat):Decidable (roomy b n):=by unfold roomy;infer_instance
def push (s:Am) (o:Obj):Am:=⟨s.σ++[o],s.ctr+1⟩
def Eb (es bytes:Nat) (s:Am) (a:AV) (ys:List AV) (cl:Bool):Option (AV×Am):=
 match a with
 | .sl false []=>if Bc es ys∧roomy bytes ys.length then some (.own s.σ.length s.ctr 0 ys.length,push s (.arr s.ctr es (!ys.isEmpty) cl ys))else none
 | .zc=>if Bc es ys∧roomy bytes ys.length then some (.own s.σ.length s.ctr 0 ys.length,push s (.arr s.ctr es true cl ys))else none
 | .own o g 0 len=>match nth s.σ o with
   |some (.arr g' es' nn cl' elems)=>
    if g=g'∧es=es'∧len≤elems.length∧Bc es ys∧roomy bytes (len+ys.length)then
     some (.own o s.ctr 0 (len+ys.length),⟨s.σ.set o (.arr s.ctr es (nn||!ys.isEmpty) (cl'&&cl) (elems.take len++ys)),s.ctr+1⟩)
    else none
   |_=>none
 |_=>none
def bound (x:AV):Option Nat:=match x with
 | .int _ n=>if 0≤n then some n.toNat else none
 |_=>none
def bounds (env:Env) (len:Nat) (lo hi:Option AO):Option (Nat×Nat):=
 match(match hi with|none=>some len|some x=>bound (x.val env)),(match lo with|none=>some 0|some x=>bound (x.val env))with
 |some h,some l=>if l≤h∧h≤len then some (l,h)else none
 |_,_=>none
def EI (C:AL) (f:Nat) (args:List AV):Option AV:=
 match C f args ⟨[],0⟩with
 |some (.ok r,s')=>snap s'.σ EK r
 |_=>none
def compact (base:Nat) (r:AV) (s:Am):Option (AV×Am):=
 match r with
 | .own o g off len=>if o<base then some (r,⟨s.σ.take base,s.ctr⟩)else
    match nth s.σ o with
    |some ob=>some (.own base g off len,⟨s.σ.take base++[ob],s.ctr⟩)
    |none=>none
 |r=>if r.closed then some (r,⟨s.σ.take base,s.ctr⟩)else some (r,s)
def Ba (C:AL) (m:Mode) (f:Nat) (args:List AV) (s:Am):Option (AB×Am):=
 match m with
 | .pure=>if DK args then(EI C f args).map fun r=>(.ok r,s)else none
 | .borrow=>match He s.σ EK args with
   |some args'=>match EI C f args' with
    |some r=>if r.scalar then some (.ok r,s)else none
    |none=>none
   |none=>none
 | .own=>if DK args then
    match C f args ⟨[],0⟩with
    |some (.ok (.own o g off len),s')=>match nth s'.σ o with
     |some (.arr g' es nn cl elems)=>if g=g'∧off=0∧cl=true∧len=elems.length then some (.ok (.own s.σ.length s.ctr 0 len),push s (.arr s.ctr es nn cl elems))else none
     |_=>none
    |some (.ok (.sl false []),_)=>some (.ok (.own s.σ.length s.ctr 0 0),push s (.arr s.ctr 1 false true []))
    |_=>none
   else none
 | .share=>match C f args s with
   |some (.ok r,s')=>(compact s.σ.length r s').map fun(r,s)=>(.ok r,s)
   |some (.Dq v,s')=>if v.closed then some (.Dq v,⟨s'.σ.take s.σ.length,s'.ctr⟩)else none
   |none=>none
 | .keep=>C f args s
def ok (s:Am) (v:Option AV):Option (AB×Am):=v.map fun v=>(.ok v,s)
def Ak (C:AL) (o:CG) (env:Env) (s:Am):Option (AB×Am):=
 match o with
 | .mov x=>some (.ok (x.val env),s)
 | .JM es=>some (.ok (.own s.σ.length s.ctr 0 0),push s (.arr s.ctr es false true []))
 | .KP off e2 es cs=>match nth cs off with
   |some (.sl false [])=>if 0<e2 then some (.ok (.ref (s.σ.length+1) (s.ctr+1) 0 0),push (push s (.arr s.ctr e2 false true [])) (.arr (s.ctr+1) es true (AV.agg (cs.set off (.own s.σ.length s.ctr 0 0))).closed [.agg (cs.set off (.own s.σ.length s.ctr 0 0))]))else none
   |_=>none
 | .pick c a b=>match c.val env with
   | .bool true=>some (.ok (a.val env),s)
   | .bool false=>some (.ok (b.val env),s)
   |_=>none
 | .alloc es z=>some (.ok (.ref s.σ.length s.ctr 0 0),push s (.arr s.ctr es true z.closed [z]))
 | .box es x=>let v:=x.val env
   if v.storable&&v.cells.length==es then some (.ok (.ref s.σ.length s.ctr 0 0),push s (.arr s.ctr es true v.closed [v]))else none
 | .build z parts=>(Et z (KO env parts)).map fun cs=>(.ok (.agg cs),s)
 | .lit own es z len parts=>
   let ps:=Qn env parts
   if Sr es len ps 0 then
    if own then some (.ok (.own s.σ.length s.ctr 0 len),push s (.arr s.ctr es true (IL ps) (BH z len ps 0)))
    else if len=0 then some (.ok .zc,s)
    else if IL ps then some (.ok (.sl true (BH z len ps 0)),s)else none
   else none
 | .load sz a=>match a.val env with
   | .CJ cs=>ok s (loadCells cs sz)
   | .ref o g i off=>match nth s.σ o with
     |some (.arr g' _ _ _ elems)=>if g=g' then match nth elems i with
         |some x=>ok s (loadCells (x.cells.drop off) sz)
         |none=>none
      else none
     |_=>none
   |_=>none
 | .store sz a x=>match a.val env with
   | .ref o g i off=>match nth s.σ o with
     |some (.arr g' es nn cl elems)=>if g=g' then match nth elems i with
          |some y=>
           let v:=x.val env
           if v.storable&&v.cells.length==sz&&off+sz≤es then
            some (.ok .undef,⟨s.σ.set o (.arr g' es nn (cl&&v.closed) (elems.set i (BF y off v))),s.ctr⟩)
           else none
          |none=>none
      else none
     |_=>none
   |_=>none
 | .Qv x=>match x.val env with
   | .ref o g i off=>some (.ok (.ref o g i off),s)
   | .CJ cs=>some (.ok (.CJ cs),s)
   | .fn f cs=>some (.ok (.fn f cs),s)
   |_=>none
 | .bin op t x y=>ok s (bin op t (x.val env) (y.val env))
 | .un op x=>match op,x.val env with
   | .not,.bool b=>some (.ok (.bool !b),s)
   | .neg,.int k n=>some (.ok (.int k (k.wrap (0-n))),s)
   |_,_=>none
 | .conv k x=>match x.val env with
   | .int _ n=>some (.ok (.int k (k.wrap n)),s)
   |_=>none
 | .convs x=>match x.val env with
   | .str b=>some (.ok (.str b),s)
   |_=>none
 | .field off sz x=>match x.val env with
   | .agg cs=>ok s (loadCells (cs.drop off) sz)
   |_=>none
 | .SY off x=>match x.val env with
   | .CJ cs=>some (.ok (.CJ (cs.drop off)),s)
   | .ref o g i off'=>some (.ok (.ref o g i (off'+off)),s)
   |_=>none
 | .S9 es x i=>match x.val env,i.val env with
   | .sl _ xs,.int _ i=>if 0≤i then match nth xs i.toNat with
      |some v=>if v.cells.length=es then some (.ok (.CJ v.cells),s)else none
      |none=>none
     else none
   | .own o g off len,.int _ i=>match nth s.σ o with
     |some (.arr g' es' _ _ _)=>if g=g'∧es=es'∧0≤i∧i<len then some (.ok (.ref o g (off+i.toNat) 0),s)else none
     |_=>none
   |_,_=>none
 | .Yh es n x i=>match x.val env,i.val env with
   | .CJ cs,.int _ i=>if 0≤i∧i<n then some (.ok (.CJ (cs.drop (i.toNat*es))),s)else none
   | .ref o g j off,.int _ i=>if 0≤i∧i<n then some (.ok (.ref o g j (off+i.toNat*es)),s)else none
   |_,_=>none
 | .Y7 x i=>match x.val env,i.val env with
   | .str bs,.int _ i=>if 0≤i then match nth bs i.toNat with
      |some b=>some (.ok (.int .u8 b.toNat),s)
      |none=>none
     else none
   |_,_=>none
 | .Aev es n sz x i=>match x.val env,i.val env with
   | .agg cs,.int _ i=>if 0≤i∧i<n then ok s (loadCells (cs.drop (i.toNat*es)) sz)else none
   |_,_=>none
 | .slice es x lo hi=>match x.val env with
   | .sl nn xs=>match bounds env xs.length lo hi with
     |some (l,h)=>if Bc es xs then some (.ok (.sl nn (sub xs l (h-l))),s)else none
     |none=>none
   | .zc=>match bounds env 0 lo hi with
     |some _=>some (.ok .zc,s)
     |none=>none
   | .own o g off len=>match nth s.σ o with
     |some (.arr g' es' _ _ _)=>if g=g'∧es=es' then match bounds env len lo hi with
          |some (l,h)=>some (.ok (.own o g (off+l) (h-l)),s)
          |none=>none
      else none
     |_=>none
   |_=>none
 | .Si x=>match x.val env with
   | .sl true _=>some (.ok .zc,s)
   | .sl false _=>some (.ok (.sl false []),s)
   | .zc=>some (.ok .zc,s)
   | .own o g 0 _=>match nth s.σ o with
     |some (.arr g' _ nn _ _)=>if g=g' then if nn then some (.ok .zc,s)else some (.ok (.sl false []),s)else none
     |_=>none
   |_=>none
 | .LW x lo hi=>match x.val env with
   | .str bs=>match bounds env bs.length lo hi with
     |some (l,h)=>some (.ok (.str ((bs.drop l).take (h-l))),s)
     |none=>none
   |_=>none
 | .len k x=>match k,x.val env with
   | .slice,.sl _ xs=>some (.ok (.int .i64 xs.length),s)
   | .slice,.zc=>some (.ok (.int .i64 0),s)
   | .slice,.own _ _ _ n=>some (.ok (.int .i64 n),s)
   | .str,.str bs=>some (.ok (.int .i64 bs.length),s)
   | .map,.Dv=>some (.ok (.int .i64 0),s)
   | .map,.map o g=>match nth s.σ o with
     |some (.mp g' _ ents)=>if g=g' then some (.ok (.int .i64 ents.length),s)else none
     |_=>none
   | .map,.fmap ents=>some (.ok (.int .i64 ents.length),s)
   | .func,.sl false []=>some (.ok (.int .i64 0),s)
   |_,_=>none
 | .min x y=>match x.val env,y.val env with
   | .int k a,.int _ b=>some (.ok (.int k (if b<a then b else a)),s)
   |_,_=>none
 | .max x y=>match x.val env,y.val env with
   | .int k a,.int _ b=>some (.ok (.int k (if b>a then b else a)),s)
   |_,_=>none
 | .append es bytes a x=>match elemsOf s es (x.val env)with
   |some (ys,cl)=>(Eb es bytes s (a.val env) ys cl).map fun(v,s)=>(.ok v,s)
   |none=>none
 | .IQ es bytes z len cap=>match len.val env,cap.val env with
   | .int _ l,.int _ c=>if 0≤l∧l≤c∧roomy bytes c.toNat then
      some (.ok (.own s.σ.length s.ctr 0 l.toNat),push s (.arr s.ctr es true z.closed (List.replicate l.toNat z)))
     else none
   |_,_=>none
 | .Pm=>some (.ok (.map s.σ.length s.ctr),push s (.mp s.ctr true []))
 | .lookup t z Rz m k=>match(match m.val env with
    | .Dv=>if JB t (k.val env)then some none else none
    | .map o g=>match nth s.σ o with
      |some (.mp g' _ ents)=>if g=g'∧JB t (k.val env)then findKey t (k.val env) ents 0 else none
      |_=>none
    | .fmap ents=>if JB t (k.val env)then findKey t (k.val env) ents 0 else none
    |_=>none)with
   |some r=>
    let v:=match r with|some (_,v)=>v|none=>z
    some (.ok (if Rz then .BD [v,.bool r.isSome]else v),s)
   |none=>none
 | .mapset t m k v=>match m.val env with
   | .map o g=>match nth s.σ o with
     |some (.mp g' cl ents)=>if g=g'∧JB t (k.val env)∧(v.val env).storable then
          match findKey t (k.val env) ents 0 with
          |some (some (i,_))=>some (.ok .undef,⟨s.σ.set o (.mp g' (cl&&(v.val env).closed) (ents.set i (k.val env,v.val env))),s.ctr⟩)
          |some none=>some (.ok .undef,⟨s.σ.set o (.mp g' (cl&&(v.val env).closed) (ents++[(k.val env,v.val env)])),s.ctr⟩)
          |none=>none
      else none
     |_=>none
   |_=>none
 | .delete t m k=>match m.val env with
   | .map o g=>match nth s.σ o with
     |some (.mp g' cl ents)=>if g=g'∧JB t (k.val env)then
          match findKey t (k.val env) ents 0 with
          |some (some (i,_))=>some (.ok .undef,⟨s.σ.set o (.mp g' cl (ents.eraseIdx i)),s.ctr⟩)
          |some none=>some (.ok .undef,s)
          |none=>none
      else none
     |_=>none
   |_=>none
 | .clear es x=>match x.val env with
   | .own o g off len=>match nth s.σ o with
     |some (.arr g' es' nn cl elems)=>if g=g'∧es=es'∧off+len≤elems.length then
          some (.ok .undef,⟨s.σ.set o (.arr g' es' nn cl (if len=0 then elems else elems.take off)),s.ctr⟩)
      else none
     |_=>none
   |_=>none
 | .ext x i=>match x.val env with
   | .BD cs=>ok s (nth cs i)
   |_=>none
 | .Ac8 f caps=>some (.ok (.fn f (vals env caps)),s)
 | .Ag8 t x=>let v:=x.val env
   if v.storable then some (.ok (.iface t v),s)else none
 | .panic x=>match x.val env with
   | .iface t v=>some (.Dq (.iface t v),s)
   |_=>none
 | .call m f args=>Ba C m f (vals env args) s
 | .Ih m x args=>match x.val env with
   | .fn f caps=>Ba C m f (vals env args++caps) s
   |_=>none
def put (d:Option Nat) (v:AV) (env:Env):Env:=match d with
 |some t=>(t,v)::env
 |none=>env
def wanted (g:Option (Nat×Bool)) (env:Env):Option Bool:=match g with
 |none=>some true
 |some (t,b)=>match env.get t with
  | .bool b'=>some (b'==b)
  | .undef=>some false
  |_=>none
def EH (C:AL):List AX→Env→Am→Option (AQ×Env×Am)
 |[],env,s=>some (.normal,env,s)
 |o::os,env,s=>match wanted o.guard env with
  |none=>none
  |some false=>EH C os (put o.dst .undef env) s
  |some true=>match Ak C o.op env s with
   |some (.ok v,s')=>EH C os (put o.dst v env) s'
   |some (.Dq v,s')=>some (.Dq v,env,s')
   |none=>none
def Ik:List Nat→Env→Am→Option (Env×Am)
 |[],env,s=>some (env,s)
 |t::ts,env,s=>match env.get t with
  | .own o g off len=>match nth s.σ o with
    |some (.arr g' _ nn true elems)=>if g=g'∧off+len≤elems.length then Ik ts ((t,.sl nn (sub elems off len))::env) ⟨s.σ.set o .dead,s.ctr⟩else none
    |_=>none
  | .ref o g i off=>match nth s.σ o with
    |some (.arr g' _ _ true elems)=>if g=g' then match nth elems i with
         |some x=>Ik ts ((t,.CJ (x.cells.drop off))::env) ⟨s.σ.set o .dead,s.ctr⟩
         |none=>none
     else none
    |_=>none
  | .map o g=>match nth s.σ o with
    |some (.mp g' true ents)=>if g=g'∧XE ents=true then Ik ts ((t,.fmap ents)::env) ⟨s.σ.set o .dead,s.ctr⟩else none
    |_=>none
  | .sl nn xs=>Ik ts ((t,.sl nn xs)::env) s
  | .zc=>Ik ts ((t,.zc)::env) s
  |_=>none
def commit (env:Env):List Nat→Env
 |[]=>[]
 |t::ts=>(t,env.get t)::commit env ts
def kept (k len:Nat):Nat:=bif Nat.blt k 1000 then k else len-(k-1000)
def truncate (t:Option Nat) (s:Am):Am:=match t with
 |none=>s
 |some k=>⟨s.σ.take (kept k s.σ.length),s.ctr⟩
def iter (f:Env→Am→Option (AQ×Env×Am)):Nat→Env→Am→Option (AQ×Env×Am)
 |0,_,_=>none
 |n+1,env,s=>match f env s with
  |some (.normal,env',s')=>iter f n env' s'
  |r=>r
inductive Cls where
 |e|r|w|a
 deriving DecidableEq
def CG.cls:CG→Option Cls
 | .mov _| .pick .. | .build .. | .bin .. | .un .. | .conv .. | .convs _| .field .. | .SY .. | .Yh .. | .Y7 .. | .Aev .. | .LW .. | .min .. | .max .. | .ext .. | .Ac8 .. | .Ag8 .. | .Qv _=>some .e
 | .load .. | .S9 .. | .slice .. | .Si _| .len .. | .lookup ..=>some .r
 | .store .. | .mapset .. | .delete .. | .clear ..=>some .w
 | .JM _| .alloc .. | .box .. | .IQ .. | .Pm| .append ..=>some .a
 | .lit own ..=>some (bif own then .a else .e)
 | .call m ..=>match m with
   | .pure=>some .e
   | .own=>some .a
   |_=>none
 | .Ih m ..=>match m with
   | .pure=>some .e
   | .own=>some .a
   |_=>none
 | .panic _| .KP ..=>none
def AV.obj:AV→List Nat
 | .own o _ _ _=>[o]
 | .ref o _ _ _=>[o]
 | .map o _=>[o]
 |_=>[]
def Xu:Option AO→List AO
 |some x=>[x]
 |none=>[]
def CG.C9:CG→List AO
 | .mov x| .box _ x| .load _ x| .Qv x| .un _ x| .conv _ x| .convs x| .field _ _ x| .SY _ x| .Si x| .len _ x| .ext x _| .Ag8 _ x| .panic x| .clear _ x=>[x]
 | .JM _| .alloc .. | .KP .. | .Pm=>[]
 | .pick c a b=>[c,a,b]
 | .build _ ps=>ps.map fun(_,_,x)=>x
 | .lit _ _ _ _ ps=>ps.map fun(_,x)=>x
 | .store _ a x| .bin _ _ a x| .S9 _ a x| .Yh _ _ a x| .Y7 a x| .Aev _ _ _ a x| .min a x| .max a x| .append _ _ a x| .IQ _ _ _ a x| .lookup _ _ _ a x| .delete _ a x=>[a,x]
 | .slice _ x lo hi| .LW x lo hi=>x::(Xu lo++Xu hi)
 | .mapset _ m k v=>[m,k,v]
 | .Ac8 _ xs| .call _ _ xs=>xs
 | .Ih _ x xs=>x::xs
def DJ (env:Env):List AO→List Nat
 |[]=>[]
 |x::xs=>(x.val env).obj++DJ env xs
def CG.reads (o:CG) (r:Nat) (env:Env):List Nat:=match o.cls with
 |some .r|some .w=>DJ env o.C9
 |some .a=>r::DJ env o.C9
 |_=>[]
def CG.writes (o:CG) (r:Nat) (env:Env):List Nat:=match o with
 | .store _ a _=>(a.val env).obj
 | .mapset _ m _ _=>(m.val env).obj
 | .delete _ m _=>(m.val env).obj
 | .clear _ x=>(x.val env).obj
 | .append _ _ a _=>r::(a.val env).obj
 |o=>match o.cls with
  |some .a=>[r]
  |_=>[]
def AV.moved (t g:Nat):AV→AV
 | .own _ _ off len=>.own t g off len
 | .ref _ _ i off=>.ref t g i off
 | .map _ _=>.map t g
 |v=>v
def Obj.QS (g:Nat):Obj→Obj
 | .arr _ es nn cl elems=>.arr g es nn cl elems
 | .mp _ cl ents=>.mp g cl ents
 | .raw _ x=>.raw g x
 | .dead=>.dead
def AV.idx:AV→Nat
 | .own o _ _ _=>o
 | .ref o _ _ _=>o
 | .map o _=>o
 |_=>0
def Jl (C:AL) (o:CG) (r g:Nat) (env:Env) (s:Am):Option (AV×Option (Nat×Obj)×Nat):=
 match o.cls,Ak C o env s with
 |some .e,some (.ok v,_)=>some (v,none,0)
 |some .r,some (.ok v,_)=>some (v,none,0)
 |some .w,some (.ok v,s')=>match o.writes r env with
  |[t]=>match nth s'.σ t with
   |some ob=>some (v,some (t,ob),0)
   |none=>none
  |_=>none
 |some .a,some (.ok v,s')=>match nth s'.σ v.idx with
  |some ob=>if v.idx<s.σ.length then some (v.moved v.idx g,some (v.idx,ob.QS g),1)
   else match nth s.σ r with
   |some .dead=>some (v.moved r g,some (r,ob.QS g),1)
   |_=>none
  |none=>none
 |_,_=>none
structure Eff where
 dst:Option Nat
 v:AV
 rd:List Nat
 wr:List Nat
 upd:Option (Nat×Obj)
 bump:Nat
 deriving Inhabited
def Fb (u:Option (Nat×Obj)) (b:Nat) (s:Am):Am:=match u with
 |some (t,ob)=>⟨s.σ.set t ob,s.ctr+b⟩
 |none=>⟨s.σ,s.ctr+b⟩
def rank (o:CG):Nat:=match o.cls with
 |some .a=>1
 |_=>0
def IB (C:AL):List AX→Nat→Nat→Env→Am→Option (List Eff)
 |[],_,_,_,_=>some []
 |o::os,r,g,env,s=>match wanted o.guard env with
  |none=>none
  |some false=>match IB C os (r+rank o.op) (g+1) (put o.dst .undef env) s with
   |some es=>some (⟨o.dst,.undef,[],[],none,0⟩::es)
   |none=>none
  |some true=>match Jl C o.op r g env s with
   |some (v,u,b)=>match IB C os (r+rank o.op) (g+1) (put o.dst v env) (Fb u b s)with
    |some es=>some (⟨o.dst,v,o.op.reads r env,o.op.writes r env,u,b⟩::es)
    |none=>none
   |none=>none
def Oz:List Eff→Env→Env
 |[],env=>env
 |e::es,env=>Oz es (put e.dst e.v env)
def L8:List Eff→Am→Am
 |[],s=>s
 |e::es,s=>L8 es (Fb e.upd e.bump s)
def DN (x:Nat):List Nat→Bool
 |[]=>false
 |y::ys=>bif Nat.beq x y then true else DN x ys
def Iy:List Nat→List Nat→Bool
 |[],_=>true
 |x::xs,ys=>bif DN x ys then false else Iy xs ys
def Yr (a b:Eff):Bool:=Iy a.wr b.rd&&(Iy a.wr b.wr&&Iy a.rd b.wr)
def Kq (es:List Eff):List (Nat×Nat)→Bool
 |[]=>true
 |(i,j)::ps=>match nth es i,nth es j with
  |some a,some b=>Yr a b&&Kq es ps
  |_,_=>false
def ranks:List AX→Nat
 |[]=>0
 |o::os=>rank o.op+ranks os
def L9 (C:AL) (m:Nat) (un:List (Nat×Nat)) (ops:List AX) (env:Env) (s:Am):Option (Env×Am):=
 match IB C (ops.take m) s.σ.length s.ctr env ⟨s.σ++List.replicate (ranks (ops.take m)) .dead,s.ctr+m⟩with
 |some es=>if Kq es un then some (Oz es env,L8 es ⟨s.σ++List.replicate (ranks (ops.take m)) .dead,s.ctr+m⟩)else none
 |none=>none
def CG.FQ:CG→Bool
 | .JM _| .alloc .. | .KP .. | .box .. | .store .. | .append .. | .IQ .. | .Pm| .mapset .. | .delete .. | .clear .. | .panic _=>false
 | .lit own ..=>!own
 | .call m ..=>m==.pure||m==.borrow
 | .Ih m ..=>m==.pure||m==.borrow
 |_=>true
def flt (o:AX):Bool:=match o.op.cls with
 |some .e=>o.op.FQ
 |_=>false
def H9:AV→AV→Bool
 | .own o g i n,.own o' g' i' n'=>Nat.beq o o'&&Nat.beq g g'&&Nat.beq i i'&&Nat.beq n n'
 | .ref o g i n,.ref o' g' i' n'=>Nat.beq o o'&&Nat.beq g g'&&Nat.beq i i'&&Nat.beq n n'
 |_,_=>false
def KY (C:AL) (op:CG) (env:Env) (v:AV):List Am→Bool
 |[]=>true
 |S::r=>match Ak C op env S with
  |some (.ok u,_)=>H9 u v&&KY C op env v r
  |_=>false
def KZ (C:AL) (S:Am):List (CG×Env×AV)→Bool
 |[]=>true
 |(op,env,v)::r=>match Ak C op env S with
  |some (.ok u,_)=>H9 u v&&KZ C S r
  |_=>false
def Eu (C:AL) (E:List Nat):List AX→Nat→Env→Am→Bool
 |[],_,_,_=>true
 |o::os,i,env,s=>if DN i E then match wanted o.guard env with
   |some true=>match Ak C o.op env s with
    |some (.ok v,_)=>flt o&&Eu C E os (i+1) (put o.dst v env) s
    |_=>false
   |some false=>Eu C E os (i+1) (put o.dst .undef env) s
   |none=>false
  else Eu C E os (i+1) env s
def Gq (C:AL) (m:Nat) (W pc:List Nat):List AX→Nat→Env→Am→List (CG×Env×AV)→List Am→Option (AQ×Env×Am)
 |[],_,env,s,_,_=>some (.normal,env,s)
 |o::os,i,env,s,pend,past=>match wanted o.guard env with
  |none=>none
  |some false=>Gq C m W pc os (i+1) (put o.dst .undef env) s pend past
  |some true=>match Ak C o.op env s with
   |some (.ok v,s1)=>
    if DN i W then
          if o.op.FQ&&KY C o.op env v past then Gq C m W pc os (i+1) (put o.dst v env) s ((o.op,env,v)::pend) past else none
    else if flt o||Nat.blt i m then Gq C m W pc os (i+1) (put o.dst v env) s pend past
    else if KZ C s1 pend then Gq C m W pc os (i+1) (put o.dst v env) s1 pend (s::past)else none
   |some (.Dq v,s1)=>match pc with
    |p::E=>if Nat.beq i p&&!(DN i W||(flt o||Nat.blt i m))&&Eu C E os (i+1) env s then some (.Dq v,[],s1)else none
    |[]=>none
   |none=>none
def EU (C:AL) (N:Nat):Bg→Env→Am→Option (AQ×Env×Am)
 | .skip,env,s=>some (.normal,env,s)
 | .region _ La ops live trunc,env,s=>match Ik La env s with
   |some (env,s)=>match EH C ops env s with
    |some (.normal,env,s)=>some (.normal,commit env live,truncate trunc s)
    |r=>r
   |none=>none
 | .par m un La ops live trunc,env,s=>match Ik La env s with
   |some (env,s)=>match L9 C m un ops env s with
    |some (env,s)=>match EH C (ops.drop m) env s with
     |some (.normal,env,s)=>some (.normal,commit env live,truncate trunc s)
     |r=>r
    |none=>none
   |none=>none
 | .mix m W pc La ops live trunc,env,s=>match Ik La env s with
   |some (env,s)=>match Gq C m W pc ops 0 env s [] []with
    |some (.normal,env,s)=>some (.normal,commit env live,truncate trunc s)
    |r=>r
   |none=>none
 | .seq a b,env,s=>match EU C N a env s with
   |some (.normal,env',s')=>EU C N b env' s'
   |r=>r
 | .cond c a b,env,s=>match c.val env with
   | .bool true=>EU C N a env s
   | .bool false=>EU C N b env s
   |_=>none
 | .block id a,env,s=>match EU C N a env s with
   |some (.exit j,env',s')=>if j=id then some (.normal,env',s')else some (.exit j,env',s')
   |r=>r
 | .loop live a,env,s=>iter (fun env s=>EU C N a (commit env live) s) N env s
 | .exit id,env,s=>some (.exit id,env,s)
 | .ret,env,s=>some (.ret,env,s)
inductive WR where
 |tmp (t:Nat)
 |cell (t:Nat) (sz:Option Nat)
 deriving Inhabited
structure Il where
 np:Nat
 body:Bg
 results:List WR
 deriving Inhabited
structure Xj where
 np:Nat
 Zl:Bg
 pre2:Bg
 post:Bg
 tcl:Nat
 cell:Nat
 tag:Nat
 results:List WR
 deriving Inhabited
inductive Ir where
 |code (fn:Il)
 |ext (spec:List AV→Am→Option (AB×Am))
 |dfr (d:Xj)
def Hy (env:Env) (s:Am):WR→Option AV
 | .tmp t=>some (env.get t)
 | .cell t sz=>match env.get t with
   | .ref o g i off=>match nth s.σ o with
     |some (.arr g' _ _ _ elems)=>if g=g' then match nth elems i with
         |some x=>loadCells (x.cells.drop off) sz
         |none=>none
      else none
     |_=>none
   |_=>none
def Ey (env:Env) (s:Am):List WR→Option (List AV)
 |[]=>some []
 |r::rs=>match Hy env s r,Ey env s rs with
  |some v,some vs=>some (v::vs)
  |_,_=>none
def IC:List AV→AV
 |[v]=>v
 |vs=>.BD vs
def params:List AV→Nat→Env
 |[],_=>[]
 |v::vs,i=>(i,v)::params vs (i+1)
def evF (C:AL) (N:Nat) (fn:Il) (args:List AV) (s:Am):Option (AB×Am):=
 match EU C N fn.body (params args 0) s with
 |some (.normal,env,s')=>(Ey env s' fn.results).map fun vs=>(.ok (IC vs),s')
 |some (.ret,env,s')=>(Ey env s' fn.results).map fun vs=>(.ok (IC vs),s')
 |some (.Dq v,_,s')=>some (.Dq v,s')
 |_=>none
def Wx (d:Xj) (env:Env) (s:Am):Option (AB×Am):=(Ey env s d.results).map fun vs=>(.ok (IC vs),s)
def OA (C:AL) (d:Xj) (c v:AV) (env:Env) (s:Am):Option (AB×Am):=match v with
 | .iface t (.int k n)=>if t=d.tag then
    match Ak C (.store 1 (.cst c) (.cst (.int k n))) [] s with
    |some (.ok _,s')=>Wx d env s'
    |_=>none
   else none
 |_=>none
def evD (C:AL) (N:Nat) (d:Xj) (args:List AV) (s:Am):Option (AB×Am):=
 match EU C N (.seq d.Zl d.pre2) (params args 0) s with
 |some (.ret,env,s1)=>Wx d env s1
 |some (.Dq v,_,s1)=>some (.Dq v,s1)
 |some (.normal,env,s1)=>match env.get d.tcl with
  | .junk=>match EU C N d.post env s1 with
    |some (.normal,Gy,s2)=>Wx d Gy s2
    |some (.ret,Gy,s2)=>Wx d Gy s2
    |some (.Dq v,Gy,s2)=>OA C d (env.get d.cell) v Gy s2
    |_=>none
  |_=>none
 |_=>none
def run (AP:Nat→Option Ir):Nat→AL
 |0=>fun _ _ _=>none
 |n+1=>fun f args s=>match AP f with
  |some (.code fn)=>if args.length=fn.np then evF (run AP n) n fn args s else none
  |some (.ext sp)=>sp args s
  |some (.dfr d)=>if args.length=d.np then evD (run AP n) n d args s else none
  |none=>none
end AI
end Go.Proofs.YtjijnamhalgamaaGreatDoor
