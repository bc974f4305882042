/- The abstract interpreter: values without a heap, operations, the evaluator and its weakest-precondition form. Program-independent. -/
import GoSem.Dispatch
import Derived.KernelRfl
namespace Go.Proofs.YtjjhejbffgaabaaGreatDoor
namespace AI
inductive AV where
 |bool (b:Bool)
 |int (k:IntKind) (n:Int)
 |str (s:List UInt8)
 |sl (nn:Bool) (xs:List AV)
 |zc
 |own (o g off len:Nat)
 |agg (cs:List AV)
 |E5 (cs:List AV)
 |ref (o g i off:Nat)
 |BP (cs:List AV)
 |fn (f:Nat) (caps:List AV)
 |map (o g:Nat)
 |fmap (ents:List (AV×AV))
 |iface (t:Nat) (v:AV)
 |Ii
 |CW
 |EO
 |F6
 |undef
 |junk
 deriving Inhabited
def AV.cells:AV→List AV
 | .agg cs=>cs
 |v=>[v]
def AV.one:AV→Bool
 | .agg _| .E5 _| .undef| .junk=>false
 |_=>true
def AV.storable:AV→Bool
 | .E5 _| .undef| .junk=>false
 |_=>true
mutual
def AV.closed:AV→Bool
 | .own .. | .ref .. | .map ..=>false
 | .agg cs=>Dp cs
 | .E5 cs=>Dp cs
 | .fn _ cs=>Dp cs
 | .iface _ v=>v.closed
 |_=>true
def Dp:List AV→Bool
 |[]=>true
 |v::vs=>v.closed&&Dp vs
end
mutual
def AV.scalar:AV→Bool
 | .bool _| .int .. | .str _| .Ii| .CW| .EO| .F6| .undef=>true
 | .sl false []=>true
 | .agg cs=>I7 cs
 | .E5 cs=>I7 cs
 |_=>false
def I7:List AV→Bool
 |[]=>true
 |v::vs=>v.scalar&&I7 vs
end
inductive Obj where
 |arr (g es:Nat) (nn cl:Bool) (elems:List AV)
 |mp (g:Nat) (cl:Bool) (ents:List (AV×AV))
 |raw (g:Nat) (x:Go.Obj)
 |dead
 deriving Inhabited
structure Af where
 σ:List Obj
 ctr:Nat
 deriving Inhabited
abbrev Env:=List (Nat×AV)
def Env.get:Env→Nat→AV
 |[],_=>.junk
 |(k,v)::e,n=>bif Nat.beq k n then v else Env.get e n
inductive AO where
 |tmp (t:Nat)
 |cst (v:AV)
 deriving Inhabited
def AO.val (e:Env):AO→AV
 | .tmp t=>e.get t
 | .cst v=>v
def vals (e:Env):List AO→List AV
 |[]=>[]
 |x::xs=>x.val e::vals e xs
def nth {α:Type}:List α→Nat→Option α
 |[],_=>none
 |x::_,0=>some x
 |_::xs,n+1=>nth xs n
inductive Mode where
 |pure|borrow|share|own|keep
 deriving DecidableEq,Repr,Inhabited
inductive IV where
 |bool|int|str|slice|ptr|func|map
 |flat (ks:List IV)
 |other
 deriving Inhabited
inductive BJ where
 |WU (x:AO)
 |Ij (es:Nat)
 |I8 (off e2 es:Nat) (cs:List AV)
 |pick (c a b:AO)
 |alloc (es:Nat) (z:AV)
 |box (es:Nat) (x:AO)
 |build (z:List AV) (parts:List (Nat×Nat×AO))
 |lit (own:Bool) (es:Nat) (z:AV) (len:Nat) (parts:List (Nat×AO))
 |load (sz:Option Nat) (a:AO)
 |store (sz:Nat) (a x:AO)
 |Nu (x:AO)
 |bin (op:BinOp) (t:IV) (x y:AO)
 |un (op:UnOp) (x:AO)
 |conv (k:IntKind) (x:AO)
 |convs (x:AO)
 |field (off:Nat) (sz:Option Nat) (x:AO)
 |OW (off:Nat) (x:AO)
 |OX (es:Nat) (x i:AO)
 |SX (es n:Nat) (x i:AO)
 |UG (x i:AO)
 |Ye (es n:Nat) (sz:Option Nat) (x i:AO)
 |slice (es:Nat) (x:AO) (lo hi:Option AO)
 |OY (x:AO)
 |JG (x:AO) (lo hi:Option AO)
 |len (k:IV) (x:AO)
 |min (x y:AO)
 |max (x y:AO)
 |append (es bytes:Nat) (s x:AO)
 |Gu (es bytes:Nat) (z:AV) (len cap:AO)
 |LK
 |lookup (t:IV) (z:AV) (ok:Bool) (m k:AO)
 |mapset (t:IV) (m k v:AO)
 |delete (t:IV) (m k:AO)
 |clear (es:Nat) (x:AO)
 |ext (x:AO) (i:Nat)
 |Yf (f:Nat) (caps:List AO)
 |Aah (t:Nat) (x:AO)
 |panic (x:AO)
 |call (m:Mode) (f:Nat) (args:List AO)
 |F7 (m:Mode) (x:AO) (args:List AO)
 deriving Inhabited
structure Aj where
 dst:Option Nat
 op:BJ
 guard:Option (Nat×Bool)
 deriving Inhabited
inductive CP where
 |skip
 |region (head:Option Nat) (IW:List Nat) (ops:List Aj) (live:List Nat) (trunc:Option Nat)
 |par (m:Nat) (un:List (Nat×Nat)) (IW:List Nat) (ops:List Aj) (live:List Nat) (trunc:Option Nat)
 |mix (m:Nat) (W pc:List Nat) (IW:List Nat) (ops:List Aj) (live:List Nat) (trunc:Option Nat)
 |seq (a b:CP)
 |cond (c:AO) (a b:CP)
 |block (id:Nat) (a:CP)
 |loop (live:List Nat) (a:CP)
 |exit (id:Nat)
 |ret
 deriving Inhabited
inductive AY where
 |normal
 |exit (id:Nat)
 |ret
 |DX (v:AV)
 deriving Inhabited
inductive Ar where
 |ok (v:AV)
 |DX (v:AV)
 deriving Inhabited
abbrev Ak:=Nat→List AV→Af→Option (Ar×Af)
def sub (xs:List AV) (off len:Nat):List AV:=(xs.drop off).take len
mutual
def snap (σ:List Obj):Nat→AV→Option AV
 |0,_=>none
 |n+1,v=>match v with
  | .own o g off len=>match nth σ o with
    |some (.arr g' _ nn cl elems)=>
     if g=g'∧off+len≤elems.length then
          if cl then some (.sl nn (sub elems off len))else(G9 σ n (sub elems off len)).map (.sl nn)
     else none
    |_=>none
  | .ref o g i off=>match nth σ o with
    |some (.arr g' _ _ cl elems)=>
     if g=g' then
          match nth elems i with
          |some x=>if cl then some (.BP (x.cells.drop off))else(G9 σ n (x.cells.drop off)).map .BP
          |none=>none
     else none
    |_=>none
  | .map o g=>match nth σ o with
    |some (.mp g' _ ents)=>if g=g' then(QE σ n ents).map .fmap else none
    |_=>none
  | .agg cs=>(G9 σ n cs).map .agg
  | .E5 cs=>(G9 σ n cs).map .E5
  | .fn f cs=>(G9 σ n cs).map (.fn f)
  | .iface t v=>(snap σ n v).map (.iface t)
  |v=>some v
def G9 (σ:List Obj):Nat→List AV→Option (List AV)
 |_,[]=>some []
 |0,_::_=>none
 |n+1,v::vs=>match snap σ n v,G9 σ n vs with
  |some a,some b=>some (a::b)
  |_,_=>none
def QE (σ:List Obj):Nat→List (AV×AV)→Option (List (AV×AV))
 |_,[]=>some []
 |0,_::_=>none
 |n+1,(k,v)::es=>match snap σ n v,QE σ n es with
  |some a,some b=>if k.closed then some ((k,a)::b)else none
  |_,_=>none
end
def SY:List (AV×AV)→Bool
 |[]=>true
 |(k,_)::es=>k.closed&&SY es
def GX:Nat:=1000000
def loadCells (cs:List AV):Option Nat→Option AV
 |none=>nth cs 0
 |some n=>if n≤cs.length then some (.agg (cs.take n))else none
def Bv (x:AV) (off:Nat) (y:AV):AV:=
 if off=0∧y.cells.length=x.cells.length then y else .agg (x.cells.take off++y.cells++x.cells.drop (off+y.cells.length))
def BU:IV→AV→AV→Option Bool
 | .int,.int k a,.int k' b=>if k=k' then some (a==b)else none
 | .bool,.bool a,.bool b=>some (a==b)
 | .str,.str a,.str b=>some (a==b)
 |_,_,_=>none
def Ik:List IV→List AV→List AV→Option Bool
 |[],[],[]=>some true
 |k::ks,x::xs,y::ys=>match BU k x y with
  |some true=>Ik ks xs ys
  |some false=>some false
  |none=>none
 |_,_,_=>none
def S9 (t:IV) (x y:AV):Option Bool:=
 match t with
 | .flat ks=>match x,y with
   | .agg xs,.agg ys=>Ik ks xs ys
   |_,_=>none
 | .slice=>match x,y with
   | .sl nn _,.sl false []=>some (!nn)
   | .zc,.sl false []=>some false
   | .sl false [],.sl nn _=>some (!nn)
   |_,_=>none
 | .ptr=>match x,y with
   | .Ii,.Ii=>some true
   | .BP _,.Ii=>some false
   | .ref ..,.Ii=>some false
   |_,_=>none
 | .func=>match x,y with
   | .EO,.EO=>some true
   | .fn ..,.EO=>some false
   |_,_=>none
 | .map=>match x,y with
   | .CW,.CW=>some true
   | .map ..,.CW=>some false
   |_,_=>none
 |t=>BU t x y
def Il (op:BinOp) (k:IntKind) (a b:Int):Option AV:=
 match op with
 | .add=>some (.int k (k.wrap (a+b)))
 | .sub=>some (.int k (k.wrap (a-b)))
 | .mul=>some (.int k (k.wrap (a*b)))
 | .quo=>if b=0 then none else some (.int k (k.wrap (a.tdiv b)))
 | .rem=>if b=0 then none else some (.int k (a.tmod b))
 | .eql=>some (.bool (a==b))
 | .neq=>some (.bool (a != b))
 | .lss=>some (.bool (decide (a<b)))
 | .leq=>some (.bool (decide (a≤b)))
 | .gtr=>some (.bool (decide (a>b)))
 | .geq=>some (.bool (decide (a≥b)))
 | .and=>some (.int k (k.wrap (BitVec.ofInt k.bits a &&& BitVec.ofInt k.bits b).toNat))
 | .or=>some (.int k (k.wrap (BitVec.ofInt k.bits a ||| BitVec.ofInt k.bits b).toNat))
 | .xor=>some (.int k (k.wrap (BitVec.ofInt k.bits a ^^^ BitVec.ofInt k.bits b).toNat))
 | .shl=>if b<0 then none else some (.int k (k.wrap (a*2 ^ (min b.toNat k.bits))))
 | .shr=>if b<0 then none else some (.int k (a.fdiv (2 ^ (min b.toNat k.bits))))
 |_=>none
def UH (op:BinOp) (a b:List UInt8):Option AV:=
 match op with
 | .eql=>some (.bool (a==b))
 | .neq=>some (.bool !(a==b))
 | .lss=>some (.bool (Op.bytesLess a b))
 | .leq=>some (.bool (Op.bytesLess a b||a==b))
 | .gtr=>some (.bool !(Op.bytesLess a b||a==b))
 | .geq=>some (.bool !(Op.bytesLess a b))
 | .add=>if a.length+b.length<2 ^ 63 then some (.str (a++b))else none
 |_=>none
def bin (op:BinOp) (t:IV) (x y:AV):Option AV:=
 match x,y with
 | .int k a,.int k' b=>if k=k' then Il op k a b else match op with
   | .shl=>Il .shl k a b
   | .shr=>Il .shr k a b
   |_=>none
 | .str a,.str b=>UH op a b
 |x,y=>match op with
  | .eql=>(S9 t x y).map .bool
  | .neq=>(S9 t x y).map fun b=>.bool !b
  |_=>none
def findKey (t:IV) (k:AV):List (AV×AV)→Nat→Option (Option (Nat×AV))
 |[],_=>some none
 |(k',v)::es,i=>match BU t k k' with
  |some true=>some (some (i,v))
  |some false=>findKey t k es (i+1)
  |none=>none
def H8:IV→AV→Bool
 | .int,.int .. | .str,.str _| .bool,.bool _=>true
 |_,_=>false
def DI:List AV→List (Nat×Nat×AV)→Option (List AV)
 |z,[]=>some z
 |z,(off,sz,v)::ps=>
  if v.storable&&v.cells.length==sz&&off+sz≤z.length then
   DI (z.take off++v.cells++z.drop (off+sz)) ps
  else none
def Bf (z:AV):Nat→List (Nat×AV)→Nat→List AV
 |0,_,_=>[]
 |n+1,[],i=>z::Bf z n [] (i+1)
 |n+1,(j,v)::ps,i=>bif Nat.beq i j then v::Bf z n ps (i+1)else z::Bf z n ((j,v)::ps) (i+1)
def OZ (es:Nat) (len:Nat):List (Nat×AV)→Nat→Bool
 |[],_=>true
 |(j,v)::ps,i=>i≤j&&j<len&&v.storable&&v.cells.length==es&&OZ es len ps (j+1)
def I9 (e:Env):List (Nat×Nat×AO)→List (Nat×Nat×AV)
 |[]=>[]
 |(o,s,x)::ps=>(o,s,x.val e)::I9 e ps
def Nv (e:Env):List (Nat×AO)→List (Nat×AV)
 |[]=>[]
 |(j,x)::ps=>(j,x.val e)::Nv e ps
def Gv:List (Nat×AV)→Bool
 |[]=>true
 |(_,v)::ps=>v.closed&&Gv ps
def elemsOf (s:Af) (es:Nat):AV→Option (List AV×Bool)
 | .sl _ xs=>some (xs,true)
 | .zc=>some ([],true)
 | .own o g off len=>match nth s.σ o with
   |some (.arr g' es' _ cl elems)=>if g=g'∧es=es'∧off+len≤elems.length then some (sub elems off len,cl)else none
   |_=>none
 |_=>none
def A8 (es:Nat) (xs:List AV):Prop:=∀x∈xs,x.cells.length=es
instance (es:Nat) (xs:List AV):Decidable (A8 es xs):=by unfold A8;infer_instance
def roomy (bytes n:Nat):Prop:=n*bytes≤2 ^ 47
instance (b n:Nat):Decidable (roomy b n):=by unfold roomy;infer_instance
def push (s:Af) (o:Obj):Af:=⟨s.σ++[o],s.ctr+1⟩
def Dt (es bytes:Nat) (s:Af) (a:AV) (ys:List AV) (cl:Bool):Option (AV×Af):=
 match a with
 | .sl false []=>if A8 es ys∧roomy bytes ys.length then some (.own s.σ.length s.ctr 0 ys.length,push s (.arr s.ctr es (!ys.isEmpty) cl ys))else none
 | .zc=>if A8 es ys∧roomy bytes ys.length then some (.own s.σ.length s.ctr 0 ys.length,push s (.arr s.ctr es true cl ys))else none
 | .own o g 0 len=>match nth s.σ o with
   |some (.arr g' es' nn cl' elems)=>
    if g=g'∧es=es'∧len≤elems.length∧A8 es ys∧roomy bytes (len+ys.length)then
     some (.own o s.ctr 0 (len+ys.length),⟨s.σ.set o (.arr s.ctr es (nn||!ys.isEmpty) (cl'&&cl) (elems.take len++ys)),s.ctr+1⟩)
    else none
   |_=>none
 |_=>none
def bound (x:AV):Option Nat:=match x with
 | .int _ n=>if 0≤n then some n.toNat else none
 |_=>none
def bounds (env:Env) (len:Nat) (lo hi:Option AO):Option (Nat×Nat):=
 match(match hi with|none=>some len|some x=>bound (x.val env)),(match lo with|none=>some 0|some x=>bound (x.val env))with
 |some h,some l=>if l≤h∧h≤len then some (l,h)else none
 |_,_=>none
def Eb (C:Ak) (f:Nat) (args:List AV):Option AV:=
 match C f args ⟨[],0⟩with
 |some (.ok r,s')=>snap s'.σ GX r
 |_=>none
def compact (base:Nat) (r:AV) (s:Af):Option (AV×Af):=
 match r with
 | .own o g off len=>if o<base then some (r,⟨s.σ.take base,s.ctr⟩)else
    match nth s.σ o with
    |some ob=>some (.own base g off len,⟨s.σ.take base++[ob],s.ctr⟩)
    |none=>none
 |r=>if r.closed then some (r,⟨s.σ.take base,s.ctr⟩)else some (r,s)
def Aw (C:Ak) (m:Mode) (f:Nat) (args:List AV) (s:Af):Option (Ar×Af):=
 match m with
 | .pure=>if Dp args then(Eb C f args).map fun r=>(.ok r,s)else none
 | .borrow=>match G9 s.σ GX args with
   |some args'=>match Eb C f args' with
    |some r=>if r.scalar then some (.ok r,s)else none
    |none=>none
   |none=>none
 | .own=>if Dp args then
    match C f args ⟨[],0⟩with
    |some (.ok (.own o g off len),s')=>match nth s'.σ o with
     |some (.arr g' es nn cl elems)=>if g=g'∧off=0∧cl=true∧len=elems.length then some (.ok (.own s.σ.length s.ctr 0 len),push s (.arr s.ctr es nn cl elems))else none
     |_=>none
    |some (.ok (.sl false []),_)=>some (.ok (.own s.σ.length s.ctr 0 0),push s (.arr s.ctr 1 false true []))
    |_=>none
   else none
 | .share=>match C f args s with
   |some (.ok r,s')=>(compact s.σ.length r s').map fun(r,s)=>(.ok r,s)
   |some (.DX v,s')=>if v.closed then some (.DX v,⟨s'.σ.take s.σ.length,s'.ctr⟩)else none
   |none=>none
 | .keep=>C f args s
def ok (s:Af) (v:Option AV):Option (Ar×Af):=v.map fun v=>(.ok v,s)
def Ac (C:Ak) (o:BJ) (env:Env) (s:Af):Option (Ar×Af):=
 match o with
 | .WU x=>some (.ok (x.val env),s)
 | .Ij es=>some (.ok (.own s.σ.length s.ctr 0 0),push s (.arr s.ctr es false true []))
 | .I8 off e2 es cs=>match nth cs off with
   |some (.sl false [])=>if 0<e2 then some (.ok (.ref (s.σ.length+1) (s.ctr+1) 0 0),push (push s (.arr s.ctr e2 false true [])) (.arr (s.ctr+1) es true (AV.agg (cs.set off (.own s.σ.length s.ctr 0 0))).closed [.agg (cs.set off (.own s.σ.length s.ctr 0 0))]))else none
   |_=>none
 | .pick c a b=>match c.val env with
   | .bool true=>some (.ok (a.val env),s)
   | .bool false=>some (.ok (b.val env),s)
   |_=>none
 | .alloc es z=>some (.ok (.ref s.σ.length s.ctr 0 0),push s (.arr s.ctr es true z.closed [z]))
 | .box es x=>let v:=x.val env
   if v.storable&&v.cells.length==es then some (.ok (.ref s.σ.length s.ctr 0 0),push s (.arr s.ctr es true v.closed [v]))else none
 | .build z parts=>(DI z (I9 env parts)).map fun cs=>(.ok (.agg cs),s)
 | .lit own es z len parts=>
   let ps:=Nv env parts
   if OZ es len ps 0 then
    if own then some (.ok (.own s.σ.length s.ctr 0 len),push s (.arr s.ctr es true (Gv ps) (Bf z len ps 0)))
    else if len=0 then some (.ok .zc,s)
    else if Gv ps then some (.ok (.sl true (Bf z len ps 0)),s)else none
   else none
 | .load sz a=>match a.val env with
   | .BP cs=>ok s (loadCells cs sz)
   | .ref o g i off=>match nth s.σ o with
     |some (.arr g' _ _ _ elems)=>if g=g' then match nth elems i with
         |some x=>ok s (loadCells (x.cells.drop off) sz)
         |none=>none
      else none
     |_=>none
   |_=>none
 | .store sz a x=>match a.val env with
   | .ref o g i off=>match nth s.σ o with
     |some (.arr g' es nn cl elems)=>if g=g' then match nth elems i with
          |some y=>
           let v:=x.val env
           if v.storable&&v.cells.length==sz&&off+sz≤es then
            some (.ok .undef,⟨s.σ.set o (.arr g' es nn (cl&&v.closed) (elems.set i (Bv y off v))),s.ctr⟩)
           else none
          |none=>none
      else none
     |_=>none
   |_=>none
 | .Nu x=>match x.val env with
   | .ref o g i off=>some (.ok (.ref o g i off),s)
   | .BP cs=>some (.ok (.BP cs),s)
   | .fn f cs=>some (.ok (.fn f cs),s)
   |_=>none
 | .bin op t x y=>ok s (bin op t (x.val env) (y.val env))
 | .un op x=>match op,x.val env with
   | .not,.bool b=>some (.ok (.bool !b),s)
   | .neg,.int k n=>some (.ok (.int k (k.wrap (0-n))),s)
   |_,_=>none
 | .conv k x=>match x.val env with
   | .int _ n=>some (.ok (.int k (k.wrap n)),s)
   |_=>none
 | .convs x=>match x.val env with
   | .str b=>some (.ok (.str b),s)
   |_=>none
 | .field off sz x=>match x.val env with
   | .agg cs=>ok s (loadCells (cs.drop off) sz)
   |_=>none
 | .OW off x=>match x.val env with
   | .BP cs=>some (.ok (.BP (cs.drop off)),s)
   | .ref o g i off'=>some (.ok (.ref o g i (off'+off)),s)
   |_=>none
 | .OX es x i=>match x.val env,i.val env with
   | .sl _ xs,.int _ i=>if 0≤i then match nth xs i.toNat with
      |some v=>if v.cells.length=es then some (.ok (.BP v.cells),s)else none
      |none=>none
     else none
   | .own o g off len,.int _ i=>match nth s.σ o with
     |some (.arr g' es' _ _ _)=>if g=g'∧es=es'∧0≤i∧i<len then some (.ok (.ref o g (off+i.toNat) 0),s)else none
     |_=>none
   |_,_=>none
 | .SX es n x i=>match x.val env,i.val env with
   | .BP cs,.int _ i=>if 0≤i∧i<n then some (.ok (.BP (cs.drop (i.toNat*es))),s)else none
   | .ref o g j off,.int _ i=>if 0≤i∧i<n then some (.ok (.ref o g j (off+i.toNat*es)),s)else none
   |_,_=>none
 | .UG x i=>match x.val env,i.val env with
   | .str bs,.int _ i=>if 0≤i then match nth bs i.toNat with
      |some b=>some (.ok (.int .u8 b.toNat),s)
      |none=>none
     else none
   |_,_=>none
 | .Ye es n sz x i=>match x.val env,i.val env with
   | .agg cs,.int _ i=>if 0≤i∧i<n then ok s (loadCells (cs.drop (i.toNat*es)) sz)else none
   |_,_=>none
 | .slice es x lo hi=>match x.val env with
   | .sl nn xs=>match bounds env xs.length lo hi with
     |some (l,h)=>if A8 es xs then some (.ok (.sl nn (sub xs l (h-l))),s)else none
     |none=>none
   | .zc=>match bounds env 0 lo hi with
     |some _=>some (.ok .zc,s)
     |none=>none
   | .own o g off len=>match nth s.σ o with
     |some (.arr g' es' _ _ _)=>if g=g'∧es=es' then match bounds env len lo hi with
          |some (l,h)=>some (.ok (.own o g (off+l) (h-l)),s)
          |none=>none
      else none
     |_=>none
   |_=>none
 | .OY x=>match x.val env with
   | .sl true _=>some (.ok .zc,s)
   | .sl false _=>some (.ok (.sl false []),s)
   | .zc=>some (.ok .zc,s)
   | .own o g 0 _=>match nth s.σ o with
     |some (.arr g' _ nn _ _)=>if g=g' then if nn then some (.ok .zc,s)else some (.ok (.sl false []),s)else none
     |_=>none
   |_=>none
 | .JG x lo hi=>match x.val env with
   | .str bs=>match bounds env bs.length lo hi with
     |some (l,h)=>some (.ok (.str ((bs.drop l).take (h-l))),s)
     |none=>none
   |_=>none
 | .len k x=>match k,x.val env with
   | .slice,.sl _ xs=>some (.ok (.int .i64 xs.length),s)
   | .slice,.zc=>some (.ok (.int .i64 0),s)
   | .slice,.own _ _ _ n=>some (.ok (.int .i64 n),s)
   | .str,.str bs=>some (.ok (.int .i64 bs.length),s)
   | .map,.CW=>some (.ok (.int .i64 0),s)
   | .map,.map o g=>match nth s.σ o with
     |some (.mp g' _ ents)=>if g=g' then some (.ok (.int .i64 ents.length),s)else none
     |_=>none
   | .map,.fmap ents=>some (.ok (.int .i64 ents.length),s)
   | .func,.sl false []=>some (.ok (.int .i64 0),s)
   |_,_=>none
 | .min x y=>match x.val env,y.val env with
   | .int k a,.int _ b=>some (.ok (.int k (if b<a then b else a)),s)
   |_,_=>none
 | .max x y=>match x.val env,y.val env with
   | .int k a,.int _ b=>some (.ok (.int k (if b>a then b else a)),s)
   |_,_=>none
 | .append es bytes a x=>match elemsOf s es (x.val env)with
   |some (ys,cl)=>(Dt es bytes s (a.val env) ys cl).map fun(v,s)=>(.ok v,s)
   |none=>none
 | .Gu es bytes z len cap=>match len.val env,cap.val env with
   | .int _ l,.int _ c=>if 0≤l∧l≤c∧roomy bytes c.toNat then
      some (.ok (.own s.σ.length s.ctr 0 l.toNat),push s (.arr s.ctr es true z.closed (List.replicate l.toNat z)))
     else none
   |_,_=>none
 | .LK=>some (.ok (.map s.σ.length s.ctr),push s (.mp s.ctr true []))
 | .lookup t z OD m k=>match(match m.val env with
    | .CW=>if H8 t (k.val env)then some none else none
    | .map o g=>match nth s.σ o with
      |some (.mp g' _ ents)=>if g=g'∧H8 t (k.val env)then findKey t (k.val env) ents 0 else none
      |_=>none
    | .fmap ents=>if H8 t (k.val env)then findKey t (k.val env) ents 0 else none
    |_=>none)with
   |some r=>
    let v:=match r with|some (_,v)=>v|none=>z
    some (.ok (if OD then .E5 [v,.bool r.isSome]else v),s)
   |none=>none
 | .mapset t m k v=>match m.val env with
   | .map o g=>match nth s.σ o with
     |some (.mp g' cl ents)=>if g=g'∧H8 t (k.val env)∧(v.val env).storable then
          match findKey t (k.val env) ents 0 with
          |some (some (i,_))=>some (.ok .undef,⟨s.σ.set o (.mp g' (cl&&(v.val env).closed) (ents.set i (k.val env,v.val env))),s.ctr⟩)
          |some none=>some (.ok .undef,⟨s.σ.set o (.mp g' (cl&&(v.val env).closed) (ents++[(k.val env,v.val env)])),s.ctr⟩)
          |none=>none
      else none
     |_=>none
   |_=>none
 | .delete t m k=>match m.val env with
   | .map o g=>match nth s.σ o with
     |some (.mp g' cl ents)=>if g=g'∧H8 t (k.val env)then
          match findKey t (k.val env) ents 0 with
          |some (some (i,_))=>some (.ok .undef,⟨s.σ.set o (.mp g' cl (ents.eraseIdx i)),s.ctr⟩)
          |some none=>some (.ok .undef,s)
          |none=>none
      else none
     |_=>none
   |_=>none
 | .clear es x=>match x.val env with
   | .own o g off len=>match nth s.σ o with
     |some (.arr g' es' nn cl elems)=>if g=g'∧es=es'∧off+len≤elems.length then
          some (.ok .undef,⟨s.σ.set o (.arr g' es' nn cl (if len=0 then elems else elems.take off)),s.ctr⟩)
      else none
     |_=>none
   |_=>none
 | .ext x i=>match x.val env with
   | .E5 cs=>ok s (nth cs i)
   |_=>none
 | .Yf f caps=>some (.ok (.fn f (vals env caps)),s)
 | .Aah t x=>let v:=x.val env
   if v.storable then some (.ok (.iface t v),s)else none
 | .panic x=>match x.val env with
   | .iface t v=>some (.DX (.iface t v),s)
   |_=>none
 | .call m f args=>Aw C m f (vals env args) s
 | .F7 m x args=>match x.val env with
   | .fn f caps=>Aw C m f (vals env args++caps) s
   |_=>none
def put (d:Option Nat) (v:AV) (env:Env):Env:=match d with
 |some t=>(t,v)::env
 |none=>env
def wanted (g:Option (Nat×Bool)) (env:Env):Option Bool:=match g with
 |none=>some true
 |some (t,b)=>match env.get t with
  | .bool b'=>some (b'==b)
  | .undef=>some false
  |_=>none
def CY (C:Ak):List Aj→Env→Af→Option (AY×Env×Af)
 |[],env,s=>some (.normal,env,s)
 |o::os,env,s=>match wanted o.guard env with
  |none=>none
  |some false=>CY C os (put o.dst .undef env) s
  |some true=>match Ac C o.op env s with
   |some (.ok v,s')=>CY C os (put o.dst v env) s'
   |some (.DX v,s')=>some (.DX v,env,s')
   |none=>none
def Kq:List AV→Nat→Option (Nat×Nat×Nat×Nat×Nat)
 |[],_=>none
 | .own o g off len::_,k=>some (k,o,g,off,len)
 |_::cs,k=>Kq cs (k+1)
def E8:List Nat→Env→Af→Option (Env×Af)
 |[],env,s=>some (env,s)
 |t::ts,env,s=>match env.get t with
  | .own o g off len=>match nth s.σ o with
    |some (.arr g' _ nn true elems)=>if g=g'∧off+len≤elems.length then E8 ts ((t,.sl nn (sub elems off len))::env) ⟨s.σ.set o .dead,s.ctr⟩else none
    |_=>none
  | .ref o g i off=>match nth s.σ o with
    |some (.arr g' _ _ true elems)=>if g=g' then match nth elems i with
         |some x=>E8 ts ((t,.BP (x.cells.drop off))::env) ⟨s.σ.set o .dead,s.ctr⟩
         |none=>none
     else none
    |some (.arr g' _ _ false [x])=>match Kq x.cells 0 with
     |some (k,o2,g2,a2,n2)=>match nth s.σ o2 with
      |some (.arr g3 _ nn3 true He)=>if g=g'∧i=0∧off=0∧g2=g3∧o2≠o∧a2+n2≤He.length∧Dp (x.cells.set k (.sl nn3 (sub He a2 n2)))=true then E8 ts ((t,.BP (x.cells.set k (.sl nn3 (sub He a2 n2))))::env) ⟨(s.σ.set o2 .dead).set o .dead,s.ctr⟩else none
      |_=>none
     |none=>none
    |_=>none
  | .map o g=>match nth s.σ o with
    |some (.mp g' true ents)=>if g=g'∧SY ents=true then E8 ts ((t,.fmap ents)::env) ⟨s.σ.set o .dead,s.ctr⟩else none
    |_=>none
  | .sl nn xs=>E8 ts ((t,.sl nn xs)::env) s
  | .zc=>E8 ts ((t,.zc)::env) s
  |_=>none
def commit (env:Env):List Nat→Env
 |[]=>[]
 |t::ts=>(t,env.get t)::commit env ts
def kept (k len:Nat):Nat:=bif Nat.blt k 1000 then k else len-(k-1000)
def truncate (t:Option Nat) (s:Af):Af:=match t with
 |none=>s
 |some k=>⟨s.σ.take (kept k s.σ.length),s.ctr⟩
def iter (f:Env→Af→Option (AY×Env×Af)):Nat→Env→Af→Option (AY×Env×Af)
 |0,_,_=>none
 |n+1,env,s=>match f env s with
  |some (.normal,env',s')=>iter f n env' s'
  |r=>r
inductive Cls where
 |e|r|w|a
 deriving DecidableEq
def BJ.cls:BJ→Option Cls
 | .WU _| .pick .. | .build .. | .bin .. | .un .. | .conv .. | .convs _| .field .. | .OW .. | .SX .. | .UG .. | .Ye .. | .JG .. | .min .. | .max .. | .ext .. | .Yf .. | .Aah .. | .Nu _=>some .e
 | .load .. | .OX .. | .slice .. | .OY _| .len .. | .lookup ..=>some .r
 | .store .. | .mapset .. | .delete .. | .clear ..=>some .w
 | .Ij _| .alloc .. | .box .. | .Gu .. | .LK| .append ..=>some .a
 | .lit own ..=>some (bif own then .a else .e)
 | .call m ..=>match m with
   | .pure=>some .e
   | .own=>some .a
   |_=>none
 | .F7 m ..=>match m with
   | .pure=>some .e
   | .own=>some .a
   |_=>none
 | .panic _| .I8 ..=>none
def AV.obj:AV→List Nat
 | .own o _ _ _=>[o]
 | .ref o _ _ _=>[o]
 | .map o _=>[o]
 |_=>[]
def Tc:Option AO→List AO
 |some x=>[x]
 |none=>[]
def BJ.Bh:BJ→List AO
 | .WU x| .box _ x| .load _ x| .Nu x| .un _ x| .conv _ x| .convs x| .field _ _ x| .OW _ x| .OY x| .len _ x| .ext x _| .Aah _ x| .panic x| .clear _ x=>[x]
 | .Ij _| .alloc .. | .I8 .. | .LK=>[]
 | .pick c a b=>[c,a,b]
 | .build _ ps=>ps.map fun(_,_,x)=>x
 | .lit _ _ _ _ ps=>ps.map fun(_,x)=>x
 | .store _ a x| .bin _ _ a x| .OX _ a x| .SX _ _ a x| .UG a x| .Ye _ _ _ a x| .min a x| .max a x| .append _ _ a x| .Gu _ _ _ a x| .lookup _ _ _ a x| .delete _ a x=>[a,x]
 | .slice _ x lo hi| .JG x lo hi=>x::(Tc lo++Tc hi)
 | .mapset _ m k v=>[m,k,v]
 | .Yf _ xs| .call _ _ xs=>xs
 | .F7 _ x xs=>x::xs
def CZ (env:Env):List AO→List Nat
 |[]=>[]
 |x::xs=>(x.val env).obj++CZ env xs
def BJ.reads (o:BJ) (r:Nat) (env:Env):List Nat:=match o.cls with
 |some .r|some .w=>CZ env o.Bh
 |some .a=>r::CZ env o.Bh
 |_=>[]
def BJ.writes (o:BJ) (r:Nat) (env:Env):List Nat:=match o with
 | .store _ a _=>(a.val env).obj
 | .mapset _ m _ _=>(m.val env).obj
 | .delete _ m _=>(m.val env).obj
 | .clear _ x=>(x.val env).obj
 | .append _ _ a _=>r::(a.val env).obj
 |o=>match o.cls with
  |some .a=>[r]
  |_=>[]
def AV.moved (t g:Nat):AV→AV
 | .own _ _ off len=>.own t g off len
 | .ref _ _ i off=>.ref t g i off
 | .map _ _=>.map t g
 |v=>v
def Obj.NW (g:Nat):Obj→Obj
 | .arr _ es nn cl elems=>.arr g es nn cl elems
 | .mp _ cl ents=>.mp g cl ents
 | .raw _ x=>.raw g x
 | .dead=>.dead
def AV.idx:AV→Nat
 | .own o _ _ _=>o
 | .ref o _ _ _=>o
 | .map o _=>o
 |_=>0
def Hf (C:Ak) (o:BJ) (r g:Nat) (env:Env) (s:Af):Option (AV×Option (Nat×Obj)×Nat):=
 match o.cls,Ac C o env s with
 |some .e,some (.ok v,_)=>some (v,none,0)
 |some .r,some (.ok v,_)=>some (v,none,0)
 |some .w,some (.ok v,s')=>match o.writes r env with
  |[t]=>match nth s'.σ t with
   |some ob=>some (v,some (t,ob),0)
   |none=>none
  |_=>none
 |some .a,some (.ok v,s')=>match nth s'.σ v.idx with
  |some ob=>if v.idx<s.σ.length then some (v.moved v.idx g,some (v.idx,ob.NW g),1)
   else match nth s.σ r with
   |some .dead=>some (v.moved r g,some (r,ob.NW g),1)
   |_=>none
  |none=>none
 |_,_=>none
structure Eff where
 dst:Option Nat
 v:AV
 rd:List Nat
 wr:List Nat
 upd:Option (Nat×Obj)
 bump:Nat
 deriving Inhabited
def Ed (u:Option (Nat×Obj)) (b:Nat) (s:Af):Af:=match u with
 |some (t,ob)=>⟨s.σ.set t ob,s.ctr+b⟩
 |none=>⟨s.σ,s.ctr+b⟩
def rank (o:BJ):Nat:=match o.cls with
 |some .a=>1
 |_=>0
def Gs (C:Ak):List Aj→Nat→Nat→Env→Af→Option (List Eff)
 |[],_,_,_,_=>some []
 |o::os,r,g,env,s=>match wanted o.guard env with
  |none=>none
  |some false=>match Gs C os (r+rank o.op) (g+1) (put o.dst .undef env) s with
   |some es=>some (⟨o.dst,.undef,[],[],none,0⟩::es)
   |none=>none
  |some true=>match Hf C o.op r g env s with
   |some (v,u,b)=>match Gs C os (r+rank o.op) (g+1) (put o.dst v env) (Ed u b s)with
    |some es=>some (⟨o.dst,v,o.op.reads r env,o.op.writes r env,u,b⟩::es)
    |none=>none
   |none=>none
def KO:List Eff→Env→Env
 |[],env=>env
 |e::es,env=>KO es (put e.dst e.v env)
def JH:List Eff→Af→Af
 |[],s=>s
 |e::es,s=>JH es (Ed e.upd e.bump s)
def Df (x:Nat):List Nat→Bool
 |[]=>false
 |y::ys=>bif Nat.beq x y then true else Df x ys
def Nw:List Nat→List Nat→Bool
 |[],_=>true
 |x::xs,ys=>bif Df x ys then false else Nw xs ys
def Td (a b:Eff):Bool:=Nw a.wr b.rd&&(Nw a.wr b.wr&&Nw a.rd b.wr)
def Iy (es:List Eff):List (Nat×Nat)→Bool
 |[]=>true
 |(i,j)::ps=>match nth es i,nth es j with
  |some a,some b=>Td a b&&Iy es ps
  |_,_=>false
def ranks:List Aj→Nat
 |[]=>0
 |o::os=>rank o.op+ranks os
def JI (C:Ak) (m:Nat) (un:List (Nat×Nat)) (ops:List Aj) (env:Env) (s:Af):Option (Env×Af):=
 match Gs C (ops.take m) s.σ.length s.ctr env ⟨s.σ++List.replicate (ranks (ops.take m)) .dead,s.ctr+m⟩with
 |some es=>if Iy es un then some (KO es env,JH es ⟨s.σ++List.replicate (ranks (ops.take m)) .dead,s.ctr+m⟩)else none
 |none=>none
def BJ.Ez:BJ→Bool
 | .Ij _| .alloc .. | .I8 .. | .box .. | .store .. | .append .. | .Gu .. | .LK| .mapset .. | .delete .. | .clear .. | .panic _=>false
 | .lit own ..=>!own
 | .call m ..=>m==.pure||m==.borrow
 | .F7 m ..=>m==.pure||m==.borrow
 |_=>true
def flt (o:Aj):Bool:=match o.op.cls with
 |some .e=>o.op.Ez
 |_=>false
def Ny:List AV→List AV→Bool
 |[],[]=>true
 | .str a::l,.str b::r=>decide (a=b)&&Ny l r
 |_,_=>false
def FU:AV→AV→Bool
 | .int k x,.int k' x'=>decide (k=k')&&decide (x=x')
 | .sl b l,.sl b' l'=>decide (b=b')&&Ny l l'
 | .own o g i n,.own o' g' i' n'=>Nat.beq o o'&&Nat.beq g g'&&Nat.beq i i'&&Nat.beq n n'
 | .ref o g i n,.ref o' g' i' n'=>Nat.beq o o'&&Nat.beq g g'&&Nat.beq i i'&&Nat.beq n n'
 | .map o g,.map o' g'=>Nat.beq o o'&&Nat.beq g g'
 |_,_=>false
def Ja (C:Ak) (op:BJ) (env:Env) (v:AV):List Af→Bool
 |[]=>true
 |S::r=>match Ac C op env S with
  |some (.ok u,_)=>FU u v&&Ja C op env v r
  |_=>false
def Jb (C:Ak) (S:Af):List (BJ×Env×AV)→Bool
 |[]=>true
 |(op,env,v)::r=>match Ac C op env S with
  |some (.ok u,_)=>FU u v&&Jb C S r
  |_=>false
def DJ (C:Ak) (E:List Nat):List Aj→Nat→Env→Af→Bool
 |[],_,_,_=>true
 |o::os,i,env,s=>if Df i E then match wanted o.guard env with
   |some true=>match Ac C o.op env s with
    |some (.ok v,_)=>flt o&&DJ C E os (i+1) (put o.dst v env) s
    |_=>false
   |some false=>DJ C E os (i+1) (put o.dst .undef env) s
   |none=>false
  else DJ C E os (i+1) env s
def EP (C:Ak) (m:Nat) (W pc:List Nat):List Aj→Nat→Env→Af→List (BJ×Env×AV)→List Af→Option (AY×Env×Af)
 |[],_,env,s,_,_=>some (.normal,env,s)
 |o::os,i,env,s,pend,past=>match wanted o.guard env with
  |none=>none
  |some false=>EP C m W pc os (i+1) (put o.dst .undef env) s pend past
  |some true=>match Ac C o.op env s with
   |some (.ok v,s1)=>
    if Df i W then
          if o.op.Ez&&Ja C o.op env v past then EP C m W pc os (i+1) (put o.dst v env) s ((o.op,env,v)::pend) past else none
    else if flt o||Nat.blt i m then EP C m W pc os (i+1) (put o.dst v env) s pend past
    else if Jb C s1 pend then EP C m W pc os (i+1) (put o.dst v env) s1 pend (s::past)else none
   |some (.DX v,s1)=>match pc with
    |p::E=>if Nat.beq i p&&!(Df i W||(flt o||Nat.blt i m))&&DJ C E os (i+1) env s then some (.DX v,[],s1)else none
    |[]=>none
   |none=>none
def Ep (C:Ak) (N:Nat):CP→Env→Af→Option (AY×Env×Af)
 | .skip,env,s=>some (.normal,env,s)
 | .region _ IW ops live trunc,env,s=>match E8 IW env s with
   |some (env,s)=>match CY C ops env s with
    |some (.normal,env,s)=>some (.normal,commit env live,truncate trunc s)
    |r=>r
   |none=>none
 | .par m un IW ops live trunc,env,s=>match E8 IW env s with
   |some (env,s)=>match JI C m un ops env s with
    |some (env,s)=>match CY C (ops.drop m) env s with
     |some (.normal,env,s)=>some (.normal,commit env live,truncate trunc s)
     |r=>r
    |none=>none
   |none=>none
 | .mix m W pc IW ops live trunc,env,s=>match E8 IW env s with
   |some (env,s)=>match EP C m W pc ops 0 env s [] []with
    |some (.normal,env,s)=>some (.normal,commit env live,truncate trunc s)
    |r=>r
   |none=>none
 | .seq a b,env,s=>match Ep C N a env s with
   |some (.normal,env',s')=>Ep C N b env' s'
   |r=>r
 | .cond c a b,env,s=>match c.val env with
   | .bool true=>Ep C N a env s
   | .bool false=>Ep C N b env s
   |_=>none
 | .block id a,env,s=>match Ep C N a env s with
   |some (.exit j,env',s')=>if j=id then some (.normal,env',s')else some (.exit j,env',s')
   |r=>r
 | .loop live a,env,s=>iter (fun env s=>Ep C N a (commit env live) s) N env s
 | .exit id,env,s=>some (.exit id,env,s)
 | .ret,env,s=>some (.ret,env,s)
inductive Ru where
 |tmp (t:Nat)
 |cell (t:Nat) (sz:Option Nat)
 deriving Inhabited
structure Gt where
 np:Nat
 body:CP
 results:List Ru
 deriving Inhabited
structure Yg where
 np:Nat
 WV:CP
 pre2:CP
 post:CP
 tcl:Nat
 cell:Nat
 tag:Nat
 results:List Ru
 deriving Inhabited
inductive IZ where
 |code (fn:Gt)
 |ext (spec:List AV→Af→Option (Ar×Af))
 |dfr (d:Yg)
def Ns (env:Env) (s:Af):Ru→Option AV
 | .tmp t=>some (env.get t)
 | .cell t sz=>match env.get t with
   | .ref o g i off=>match nth s.σ o with
     |some (.arr g' _ _ _ elems)=>if g=g' then match nth elems i with
         |some x=>loadCells (x.cells.drop off) sz
         |none=>none
      else none
     |_=>none
   |_=>none
def FD (env:Env) (s:Af):List Ru→Option (List AV)
 |[]=>some []
 |r::rs=>match Ns env s r,FD env s rs with
  |some v,some vs=>some (v::vs)
  |_,_=>none
def Hg:List AV→AV
 |[v]=>v
 |vs=>.E5 vs
def params:List AV→Nat→Env
 |[],_=>[]
 |v::vs,i=>(i,v)::params vs (i+1)
def evF (C:Ak) (N:Nat) (fn:Gt) (args:List AV) (s:Af):Option (Ar×Af):=
 match Ep C N fn.body (params args 0) s with
 |some (.normal,env,s')=>(FD env s' fn.results).map fun vs=>(.ok (Hg vs),s')
 |some (.ret,env,s')=>(FD env s' fn.results).map fun vs=>(.ok (Hg vs),s')
 |some (.DX v,_,s')=>some (.DX v,s')
 |_=>none
def UJ (d:Yg) (env:Env) (s:Af):Option (Ar×Af):=(FD env s d.results).map fun vs=>(.ok (Hg vs),s)
def O1 (C:Ak) (d:Yg) (c v:AV) (env:Env) (s:Af):Option (Ar×Af):=match v with
 | .iface t (.int k n)=>if t=d.tag then
    match Ac C (.store 1 (.cst c) (.cst (.int k n))) [] s with
    |some (.ok _,s')=>UJ d env s'
    |_=>none
   else none
 |_=>none
def evD (C:Ak) (N:Nat) (d:Yg) (args:List AV) (s:Af):Option (Ar×Af):=
 match Ep C N (.seq d.WV d.pre2) (params args 0) s with
 |some (.ret,env,s1)=>UJ d env s1
 |some (.DX v,_,s1)=>some (.DX v,s1)
 |some (.normal,env,s1)=>match env.get d.tcl with
  | .junk=>match Ep C N d.post env s1 with
    |some (.normal,Dh,s2)=>UJ d Dh s2
    |some (.ret,Dh,s2)=>UJ d Dh s2
    |some (.DX v,Dh,s2)=>O1 C d (env.get d.cell) v Dh s2
    |_=>none
  |_=>none
 |_=>none
def run (AP:Nat→Option IZ):Nat→Ak
 |0=>fun _ _ _=>none
 |n+1=>fun f args s=>match AP f with
  |some (.code fn)=>if args.length=fn.np then evF (run AP n) n fn args s else none
  |some (.ext sp)=>sp args s
  |some (.dfr d)=>if args.length=d.np then evD (run AP n) n d args s else none
  |none=>none
end AI
end Go.Proofs.YtjjhejbffgaabaaGreatDoor
