/- The abstract interpreter: values without a heap, operations, the evaluator and its weakest-precondition form. Program-independent. -/
import GoSem.Dispatch
import Derived.KernelRfl
namespace Go.Proofs.YtchcadfjbkkgmaaGreatDoor
namespace AI
inductive AV where
 |bool (b:Bool)
 |int (k:IntKind) (n:Int)
 |str (s:List UInt8)
 |sl (nn:Bool) (xs:List AV)
 |zc
 |own (o g off len:Nat)
 |agg (cs:List AV)
 |CP (cs:List AV)
 |ref (o g i off:Nat)
 |CB (cs:List AV)
 |fn (f:Nat) (caps:List AV)
 |map (o g:Nat)
 |fmap (ents:List (AV×AV))
 |iface (t:Nat) (v:AV)
 |Ja
 |CJ
 |Fe
 |Gp
 |undef
 |junk
 deriving Inhabited
def AV.cells:AV→List AV
 | .agg cs=>cs
 |v=>[v]
def AV.one:AV→Bool
 | .agg _| .CP _| .undef| .junk=>false
 |_=>true
def AV.storable:AV→Bool
 | .CP _| .undef| .junk=>false
 |_=>true
mutual
def AV.closed:AV→Bool
 | .own .. | .ref .. | .map ..=>false
 | .agg cs=>EW cs
 | .CP cs=>EW cs
 | .fn _ cs=>EW cs
 | .iface _ v=>v.closed
 |_=>true
def EW:List AV→Bool
 |[]=>true
 |v::vs=>v.closed&&EW vs
end
mutual
def AV.scalar:AV→Bool
 | .bool _| .int .. | .str _| .Ja| .CJ| .Fe| .Gp| .undef=>true
 | .sl false []=>true
 | .agg cs=>J6 cs
 | .CP cs=>J6 cs
 |_=>false
def J6:List AV→Bool
 |[]=>true
 |v::vs=>v.scalar&&J6 vs
end
inductive Obj where
 |arr (g es:Nat) (nn cl:Bool) (elems:List AV)
 |mp (g:Nat) (cl:Bool) (ents:List (AV×AV))
 |raw (g:Nat) (x:Go.Obj)
 |dead
 deriving Inhabited
structure Ai where
 σ:List Obj
 ctr:Nat
 deriving Inhabited
abbrev Env:=List (Nat×AV)
def Env.get:Env→Nat→AV
 |[],_=>.junk
 |(k,v)::e,n=>bif Nat.beq k n then v else Env.get e n
inductive AO where
 |tmp (t:Nat)
 |cst (v:AV)
 deriving Inhabited
def AO.val (e:Env):AO→AV
 | .tmp t=>e.get t
 | .cst v=>v
def vals (e:Env):List AO→List AV
 |[]=>[]
 |x::xs=>x.val e::vals e xs
def nth {α:Type}:List α→Nat→Option α
 |[],_=>none
 |x::_,0=>some x
 |_::xs,n+1=>nth xs n
inductive Mode where
 |pure|borrow|share|own|keep
 deriving DecidableEq,Repr,Inhabited
inductive Jb where
 |bool|int|str|slice|ptr|func|map
 |flat (ks:List Jb)
 |other
 deriving Inhabited
inductive BO where
 |Yw (x:AO)
 |Jq (es:Nat)
 |JU (off e2 es:Nat) (cs:List AV)
 |pick (c a b:AO)
 |alloc (es:Nat) (z:AV)
 |box (es:Nat) (x:AO)
 |build (z:List AV) (parts:List (Nat×Nat×AO))
 |lit (own:Bool) (es:Nat) (z:AV) (len:Nat) (parts:List (Nat×AO))
 |load (sz:Option Nat) (a:AO)
 |store (sz:Nat) (a x:AO)
 |PG (x:AO)
 |bin (op:BinOp) (t:Jb) (x y:AO)
 |un (op:UnOp) (x:AO)
 |conv (k:IntKind) (x:AO)
 |convs (x:AO)
 |field (off:Nat) (sz:Option Nat) (x:AO)
 |Qh (off:Nat) (x:AO)
 |RD (es:Nat) (x i:AO)
 |Xa (es n:Nat) (x i:AO)
 |YB (x i:AO)
 |Acg (es n:Nat) (sz:Option Nat) (x i:AO)
 |slice (es:Nat) (x:AO) (lo hi:Option AO)
 |Rz (x:AO)
 |KR (x:AO) (lo hi:Option AO)
 |len (k:Jb) (x:AO)
 |min (x y:AO)
 |max (x y:AO)
 |append (es bytes:Nat) (s x:AO)
 |Hz (es bytes:Nat) (z:AV) (len cap:AO)
 |Oe
 |lookup (t:Jb) (z:AV) (ok:Bool) (m k:AO)
 |mapset (t:Jb) (m k v:AO)
 |delete (t:Jb) (m k:AO)
 |clear (es:Nat) (x:AO)
 |ext (x:AO) (i:Nat)
 |Acf (f:Nat) (caps:List AO)
 |AeG (t:Nat) (x:AO)
 |panic (x:AO)
 |call (m:Mode) (f:Nat) (args:List AO)
 |GX (m:Mode) (x:AO) (args:List AO)
 deriving Inhabited
structure AA where
 dst:Option Nat
 op:BO
 guard:Option (Nat×Bool)
 deriving Inhabited
inductive AQ where
 |skip
 |region (head:Option Nat) (JQ:List Nat) (ops:List AA) (live:List Nat) (trunc:Option Nat)
 |par (m:Nat) (un:List (Nat×Nat)) (JQ:List Nat) (ops:List AA) (live:List Nat) (trunc:Option Nat)
 |mix (m:Nat) (W pc:List Nat) (JQ:List Nat) (ops:List AA) (live:List Nat) (trunc:Option Nat)
 |seq (a b:AQ)
 |cond (c:AO) (a b:AQ)
 |block (id:Nat) (a:AQ)
 |loop (live:List Nat) (a:AQ)
 |exit (id:Nat)
 |ret
 deriving Inhabited
inductive AL where
 |normal
 |exit (id:Nat)
 |ret
 |Ef (v:AV)
 deriving Inhabited
inductive AB where
 |ok (v:AV)
 |Ef (v:AV)
 deriving Inhabited
abbrev Az:=Nat→List AV→Ai→Option (AB×Ai)
def sub (xs:List AV) (off len:Nat):List AV:=(xs.drop off).take len
mutual
def snap (σ:List Obj):Nat→AV→Option AV
 |0,_=>none
 |n+1,v=>match v with
  | .own o g off len=>match nth σ o with
    |some (.arr g' _ nn cl elems)=>
     if g=g'∧off+len≤elems.length then
          if cl then some (.sl nn (sub elems off len))else(G7 σ n (sub elems off len)).map (.sl nn)
     else none
    |_=>none
  | .ref o g i off=>match nth σ o with
    |some (.arr g' _ _ cl elems)=>
     if g=g' then
          match nth elems i with
          |some x=>if cl then some (.CB (x.cells.drop off))else(G7 σ n (x.cells.drop off)).map .CB
          |none=>none
     else none
    |_=>none
  | .map o g=>match nth σ o with
    |some (.mp g' _ ents)=>if g=g' then(Nh σ n ents).map .fmap else none
    |_=>none
  | .agg cs=>(G7 σ n cs).map .agg
  | .CP cs=>(G7 σ n cs).map .CP
  | .fn f cs=>(G7 σ n cs).map (.fn f)
  | .iface t v=>(snap σ n v).map (.iface t)
  |v=>some v
def G7 (σ:List Obj):Nat→List AV→Option (List AV)
 |_,[]=>some []
 |0,_::_=>none
 |n+1,v::vs=>match snap σ n v,G7 σ n vs with
  |some a,some b=>some (a::b)
  |_,_=>none
def Nh (σ:List Obj):Nat→List (AV×AV)→Option (List (AV×AV))
 |_,[]=>some []
 |0,_::_=>none
 |n+1,(k,v)::es=>match snap σ n v,Nh σ n es with
  |some a,some b=>if k.closed then some ((k,a)::b)else none
  |_,_=>none
end
def Ya:List (AV×AV)→Bool
 |[]=>true
 |(k,_)::es=>k.closed&&Ya es
def EP:Nat:=1000000
def loadCells (cs:List AV):Option Nat→Option AV
 |none=>nth cs 0
 |some n=>if n≤cs.length then some (.agg (cs.take n))else none
def Bz (x:AV) (off:Nat) (y:AV):AV:=
 if off=0∧y.cells.length=x.cells.length then y else .agg (x.cells.take off++y.cells++x.cells.drop (off+y.cells.length))
def Df:Jb→AV→AV→Option Bool
 | .int,.int k a,.int k' b=>if k=k' then some (a==b)else none
 | .bool,.bool a,.bool b=>some (a==b)
 | .str,.str a,.str b=>some (a==b)
 |_,_,_=>none
def DL:List Jb→List AV→List AV→Option Bool
 |[],[],[]=>some true
 |k::ks,x::xs,y::ys=>match Df k x y with
  |some true=>DL ks xs ys
  |some false=>some false
  |none=>none
 |_,_,_=>none
def Abh (t:Jb) (x y:AV):Option Bool:=
 match t with
 | .flat ks=>match x,y with
   | .agg xs,.agg ys=>DL ks xs ys
   |_,_=>none
 | .slice=>match x,y with
   | .sl nn _,.sl false []=>some (!nn)
   | .zc,.sl false []=>some false
   | .sl false [],.sl nn _=>some (!nn)
   |_,_=>none
 | .ptr=>match x,y with
   | .Ja,.Ja=>some true
   | .CB _,.Ja=>some false
   | .ref ..,.Ja=>some false
   |_,_=>none
 | .func=>match x,y with
   | .Fe,.Fe=>some true
   | .fn ..,.Fe=>some false
   |_,_=>none
 | .map=>match x,y with
   | .CJ,.CJ=>some true
   | .map ..,.CJ=>some false
   |_,_=>none
 |t=>Df t x y
def Js (op:BinOp) (k:IntKind) (a b:Int):Option AV:=
 match op with
 | .add=>some (.int k (k.wrap (a+b)))
 | .sub=>some (.int k (k.wrap (a-b)))
 | .mul=>some (.int k (k.wrap (a*b)))
 | .quo=>if b=0 then none else some (.int k (k.wrap (a.tdiv b)))
 | .rem=>if b=0 then none else some (.int k (a.tmod b))
 | .eql=>some (.bool (a==b))
 | .neq=>some (.bool (a != b))
 | .lss=>some (.bool (decide (a<b)))
 | .leq=>some (.bool (decide (a≤b)))
 | .gtr=>some (.bool (decide (a>b)))
 | .geq=>some (.bool (decide (a≥b)))
 | .and=>some (.int k (k.wrap (BitVec.ofInt k.bits a &&& BitVec.ofInt k.bits b).toNat))
 | .or=>some (.int k (k.wrap (BitVec.ofInt k.bits a ||| BitVec.ofInt k.bits b).toNat))
 | .xor=>some (.int k (k.wrap (BitVec.ofInt k.bits a ^^^ BitVec.ofInt k.bits b).toNat))
 | .shl=>if b<0 then none else some (.int k (k.wrap (a*2 ^ (min b.toNat k.bits))))
 | .shr=>if b<0 then none else some (.int k (a.fdiv (2 ^ (min b.toNat k.bits))))
 |_=>none
def ZH (op:BinOp) (a b:List UInt8):Option AV:=
 match op with
 | .eql=>some (.bool (a==b))
 | .neq=>some (.bool !(a==b))
 | .lss=>some (.bool (Op.bytesLess a b))
 | .leq=>some (.bool (Op.bytesLess a b||a==b))
 | .gtr=>some (.bool !(Op.bytesLess a b||a==b))
 | .geq=>some (.bool !(Op.bytesLess a b))
 | .add=>if a.length+b.length<2 ^ 63 then some (.str (a++b))else none
 |_=>none
def bin (op:BinOp) (t:Jb) (x y:AV):Option AV:=
 match x,y with
 | .int k a,.int k' b=>if k=k' then Js op k a b else match op with
   | .shl=>Js .shl k a b
   | .shr=>Js .shr k a b
   |_=>none
 | .str a,.str b=>ZH op a b
 |x,y=>match op with
  | .eql=>(Abh t x y).map .bool
  | .neq=>(Abh t x y).map fun b=>.bool !b
  |_=>none
def findKey (t:Jb) (k:AV):List (AV×AV)→Nat→Option (Option (Nat×AV))
 |[],_=>some none
 |(k',v)::es,i=>match Df t k k' with
  |some true=>some (some (i,v))
  |some false=>findKey t k es (i+1)
  |none=>none
def Jg:Jb→AV→Bool
 | .int,.int .. | .str,.str _| .bool,.bool _=>true
 |_,_=>false
def Ea:List AV→List (Nat×Nat×AV)→Option (List AV)
 |z,[]=>some z
 |z,(off,sz,v)::ps=>
  if v.storable&&v.cells.length==sz&&off+sz≤z.length then
   Ea (z.take off++v.cells++z.drop (off+sz)) ps
  else none
def BF (z:AV):Nat→List (Nat×AV)→Nat→List AV
 |0,_,_=>[]
 |n+1,[],i=>z::BF z n [] (i+1)
 |n+1,(j,v)::ps,i=>bif Nat.beq i j then v::BF z n ps (i+1)else z::BF z n ((j,v)::ps) (i+1)
def TK (es:Nat) (len:Nat):List (Nat×AV)→Nat→Bool
 |[],_=>true
 |(j,v)::ps,i=>i≤j&&j<len&&v.storable&&v.cells.length==es&&TK es len ps (j+1)
def Kq (e:Env):List (Nat×Nat×AO)→List (Nat×Nat×AV)
 |[]=>[]
 |(o,s,x)::ps=>(o,s,x.val e)::Kq e ps
def PZ (e:Env):List (Nat×AO)→List (Nat×AV)
 |[]=>[]
 |(j,x)::ps=>(j,x.val e)::PZ e ps
def Ii:List (Nat×AV)→Bool
 |[]=>true
 |(_,v)::ps=>v.closed&&Ii ps
def elemsOf (s:Ai) (es:Nat):AV→Option (List AV×Bool)
 | .sl _ xs=>some (xs,true)
 | .zc=>some ([],true)
 | .own o g off len=>match nth s.σ o with
   |some (.arr g' es' _ cl elems)=>if g=g'∧es=es'∧off+len≤elems.length then some (sub elems off len,cl)else none
   |_=>none
 |_=>none
def Bh (es:Nat) (xs:List AV):Prop:=∀x∈xs,x.cells.length=es
instance (es:Nat) (xs:List AV):Decidable (Bh es xs):=by unfold Bh;infer_instance
def roomy (bytes n:Nat):Prop:=n*bytes≤2 ^ 47
instance (b n:Nat):Decidable (roomy b n):=by unfold roomy;infer_instance
def push (s:Ai) (o:Obj):Ai:=⟨s.σ++[o],s.ctr+1⟩
def DV (es bytes:Nat) (s:Ai) (a:AV) (ys:List AV) (cl:Bool):Option (AV×Ai):=
 match a with
 | .sl false []=>if Bh es ys∧roomy bytes ys.length then some (.own s.σ.length s.ctr 0 ys.length,push s (.arr s.ctr es (!ys.isEmpty) cl ys))else none
 | .zc=>if Bh es ys∧roomy bytes ys.length then some (.own s.σ.length s.ctr 0 ys.length,push s (.arr s.ctr es true cl ys))else none
 | .own o g 0 len=>match nth s.σ o with
   |some (.arr g' es' nn cl' elems)=>
    if g=g'∧es=es'∧len≤elems.length∧Bh es ys∧roomy bytes (len+ys.length)then
     some (.own o s.ctr 0 (len+ys.length),⟨s.σ.set o (.arr s.ctr es (nn||!ys.isEmpty) (cl'&&cl) (elems.take len++ys)),s.ctr+1⟩)
    else none
   |_=>none
 |_=>none
def bound (x:AV):Option Nat:=match x with
 | .int _ n=>if 0≤n then some n.toNat else none
 |_=>none
def bounds (env:Env) (len:Nat) (lo hi:Option AO):Option (Nat×Nat):=
 match(match hi with|none=>some len|some x=>bound (x.val env)),(match lo with|none=>some 0|some x=>bound (x.val env))with
 |some h,some l=>if l≤h∧h≤len then some (l,h)else none
 |_,_=>none
def Cj (C:Az) (f:Nat) (args:List AV):Option AV:=
 match C f args ⟨[],0⟩with
 |some (.ok r,s')=>snap s'.σ EP r
 |_=>none
def compact (base:Nat) (r:AV) (s:Ai):Option (AV×Ai):=
 match r with
 | .own o g off len=>if o<base then some (r,⟨s.σ.take base,s.ctr⟩)else
    match nth s.σ o with
    |some ob=>some (.own base g off len,⟨s.σ.take base++[ob],s.ctr⟩)
    |none=>none
 |r=>if r.closed then some (r,⟨s.σ.take base,s.ctr⟩)else some (r,s)
def Ba (C:Az) (m:Mode) (f:Nat) (args:List AV) (s:Ai):Option (AB×Ai):=
 match m with
 | .pure=>if EW args then(Cj C f args).map fun r=>(.ok r,s)else none
 | .borrow=>match G7 s.σ EP args with
   |some args'=>match Cj C f args' with
    |some r=>if r.scalar then some (.ok r,s)else none
    |none=>none
   |none=>none
 | .own=>if EW args then
    match C f args ⟨[],0⟩with
    |some (.ok (.own o g off len),s')=>match nth s'.σ o with
     |some (.arr g' es nn cl elems)=>if g=g'∧off=0∧cl=true∧len=elems.length then some (.ok (.own s.σ.length s.ctr 0 len),push s (.arr s.ctr es nn cl elems))else none
     |_=>none
    |some (.ok (.sl false []),_)=>some (.ok (.own s.σ.length s.ctr 0 0),push s (.arr s.ctr 1 false true []))
    |_=>none
   else none
 | .share=>match C f args s with
   |some (.ok r,s')=>(compact s.σ.length r s').map fun(r,s)=>(.ok r,s)
   |some (.Ef v,s')=>if v.closed then some (.Ef v,⟨s'.σ.take s.σ.length,s'.ctr⟩)else none
   |none=>none
 | .keep=>C f args s
def ok (s:Ai) (v:Option AV):Option (AB×Ai):=v.map fun v=>(.ok v,s)
def Ag (C:Az) (o:BO) (env:Env) (s:Ai):Option (AB×Ai):=
 match o with
 | .Yw x=>some (.ok (x.val env),s)
 | .Jq es=>some (.ok (.own s.σ.length s.ctr 0 0),push s (.arr s.ctr es false true []))
 | .JU off e2 es cs=>match nth cs off with
   |some (.sl false [])=>if 0<e2 then some (.ok (.ref (s.σ.length+1) (s.ctr+1) 0 0),push (push s (.arr s.ctr e2 false true [])) (.arr (s.ctr+1) es true (AV.agg (cs.set off (.own s.σ.length s.ctr 0 0))).closed [.agg (cs.set off (.own s.σ.length s.ctr 0 0))]))else none
   |_=>none
 | .pick c a b=>match c.val env with
   | .bool true=>some (.ok (a.val env),s)
   | .bool false=>some (.ok (b.val env),s)
   |_=>none
 | .alloc es z=>some (.ok (.ref s.σ.length s.ctr 0 0),push s (.arr s.ctr es true z.closed [z]))
 | .box es x=>let v:=x.val env
   if v.storable&&v.cells.length==es then some (.ok (.ref s.σ.length s.ctr 0 0),push s (.arr s.ctr es true v.closed [v]))else none
 | .build z parts=>(Ea z (Kq env parts)).map fun cs=>(.ok (.agg cs),s)
 | .lit own es z len parts=>
   let ps:=PZ env parts
   if TK es len ps 0 then
    if own then some (.ok (.own s.σ.length s.ctr 0 len),push s (.arr s.ctr es true (Ii ps) (BF z len ps 0)))
    else if len=0 then some (.ok .zc,s)
    else if Ii ps then some (.ok (.sl true (BF z len ps 0)),s)else none
   else none
 | .load sz a=>match a.val env with
   | .CB cs=>ok s (loadCells cs sz)
   | .ref o g i off=>match nth s.σ o with
     |some (.arr g' _ _ _ elems)=>if g=g' then match nth elems i with
         |some x=>ok s (loadCells (x.cells.drop off) sz)
         |none=>none
      else none
     |_=>none
   |_=>none
 | .store sz a x=>match a.val env with
   | .ref o g i off=>match nth s.σ o with
     |some (.arr g' es nn cl elems)=>if g=g' then match nth elems i with
          |some y=>
           let v:=x.val env
           if v.storable&&v.cells.length==sz&&off+sz≤es then
            some (.ok .undef,⟨s.σ.set o (.arr g' es nn (cl&&v.closed) (elems.set i (Bz y off v))),s.ctr⟩)
           else none
          |none=>none
      else none
     |_=>none
   |_=>none
 | .PG x=>match x.val env with
   | .ref o g i off=>some (.ok (.ref o g i off),s)
   | .CB cs=>some (.ok (.CB cs),s)
   | .fn f cs=>some (.ok (.fn f cs),s)
   |_=>none
 | .bin op t x y=>ok s (bin op t (x.val env) (y.val env))
 | .un op x=>match op,x.val env with
   | .not,.bool b=>some (.ok (.bool !b),s)
   | .neg,.int k n=>some (.ok (.int k (k.wrap (0-n))),s)
   |_,_=>none
 | .conv k x=>match x.val env with
   | .int _ n=>some (.ok (.int k (k.wrap n)),s)
   |_=>none
 | .convs x=>match x.val env with
   | .str b=>some (.ok (.str b),s)
   |_=>none
 | .field off sz x=>match x.val env with
   | .agg cs=>ok s (loadCells (cs.drop off) sz)
   |_=>none
 | .Qh off x=>match x.val env with
   | .CB cs=>some (.ok (.CB (cs.drop off)),s)
   | .ref o g i off'=>some (.ok (.ref o g i (off'+off)),s)
   |_=>none
 | .RD es x i=>match x.val env,i.val env with
   | .sl _ xs,.int _ i=>if 0≤i then match nth xs i.toNat with
      |some v=>if v.cells.length=es then some (.ok (.CB v.cells),s)else none
      |none=>none
     else none
   | .own o g off len,.int _ i=>match nth s.σ o with
     |some (.arr g' es' _ _ _)=>if g=g'∧es=es'∧0≤i∧i<len then some (.ok (.ref o g (off+i.toNat) 0),s)else none
     |_=>none
   |_,_=>none
 | .Xa es n x i=>match x.val env,i.val env with
   | .CB cs,.int _ i=>if 0≤i∧i<n then some (.ok (.CB (cs.drop (i.toNat*es))),s)else none
   | .ref o g j off,.int _ i=>if 0≤i∧i<n then some (.ok (.ref o g j (off+i.toNat*es)),s)else none
   |_,_=>none
 | .YB x i=>match x.val env,i.val env with
   | .str bs,.int _ i=>if 0≤i then match nth bs i.toNat with
      |some b=>some (.ok (.int .u8 b.toNat),s)
      |none=>none
     else none
   |_,_=>none
 | .Acg es n sz x i=>match x.val env,i.val env with
   | .agg cs,.int _ i=>if 0≤i∧i<n then ok s (loadCells (cs.drop (i.toNat*es)) sz)else none
   |_,_=>none
 | .slice es x lo hi=>match x.val env with
   | .sl nn xs=>match bounds env xs.length lo hi with
     |some (l,h)=>if Bh es xs then some (.ok (.sl nn (sub xs l (h-l))),s)else none
     |none=>none
   | .zc=>match bounds env 0 lo hi with
     |some _=>some (.ok .zc,s)
     |none=>none
   | .own o g off len=>match nth s.σ o with
     |some (.arr g' es' _ _ _)=>if g=g'∧es=es' then match bounds env len lo hi with
          |some (l,h)=>some (.ok (.own o g (off+l) (h-l)),s)
          |none=>none
      else none
     |_=>none
   |_=>none
 | .Rz x=>match x.val env with
   | .sl true _=>some (.ok .zc,s)
   | .sl false _=>some (.ok (.sl false []),s)
   | .zc=>some (.ok .zc,s)
   | .own o g 0 _=>match nth s.σ o with
     |some (.arr g' _ nn _ _)=>if g=g' then if nn then some (.ok .zc,s)else some (.ok (.sl false []),s)else none
     |_=>none
   |_=>none
 | .KR x lo hi=>match x.val env with
   | .str bs=>match bounds env bs.length lo hi with
     |some (l,h)=>some (.ok (.str ((bs.drop l).take (h-l))),s)
     |none=>none
   |_=>none
 | .len k x=>match k,x.val env with
   | .slice,.sl _ xs=>some (.ok (.int .i64 xs.length),s)
   | .slice,.zc=>some (.ok (.int .i64 0),s)
   | .slice,.own _ _ _ n=>some (.ok (.int .i64 n),s)
   | .str,.str bs=>some (.ok (.int .i64 bs.length),s)
   | .map,.CJ=>some (.ok (.int .i64 0),s)
   | .map,.map o g=>match nth s.σ o with
     |some (.mp g' _ ents)=>if g=g' then some (.ok (.int .i64 ents.length),s)else none
     |_=>none
   | .map,.fmap ents=>some (.ok (.int .i64 ents.length),s)
   | .func,.sl false []=>some (.ok (.int .i64 0),s)
   |_,_=>none
 | .min x y=>match x.val env,y.val env with
   | .int k a,.int _ b=>some (.ok (.int k (if b<a then b else a)),s)
   |_,_=>none
 | .max x y=>match x.val env,y.val env with
   | .int k a,.int _ b=>some (.ok (.int k (if b>a then b else a)),s)
   |_,_=>none
 | .append es bytes a x=>match elemsOf s es (x.val env)with
   |some (ys,cl)=>(DV es bytes s (a.val env) ys cl).map fun(v,s)=>(.ok v,s)
   |none=>none
 | .Hz es bytes z len cap=>match len.val env,cap.val env with
   | .int _ l,.int _ c=>if 0≤l∧l≤c∧roomy bytes c.toNat then
      some (.ok (.own s.σ.length s.ctr 0 l.toNat),push s (.arr s.ctr es true z.closed (List.replicate l.toNat z)))
     else none
   |_,_=>none
 | .Oe=>some (.ok (.map s.σ.length s.ctr),push s (.mp s.ctr true []))
 | .lookup t z QT m k=>match(match m.val env with
    | .CJ=>if Jg t (k.val env)then some none else none
    | .map o g=>match nth s.σ o with
      |some (.mp g' _ ents)=>if g=g'∧Jg t (k.val env)then findKey t (k.val env) ents 0 else none
      |_=>none
    | .fmap ents=>if Jg t (k.val env)then findKey t (k.val env) ents 0 else none
    |_=>none)with
   |some r=>
    let v:=match r with|some (_,v)=>v|none=>z
    some (.ok (if QT then .CP [v,.bool r.isSome]else v),s)
   |none=>none
 | .mapset t m k v=>match m.val env with
   | .map o g=>match nth s.σ o with
     |some (.mp g' cl ents)=>if g=g'∧Jg t (k.val env)∧(v.val env).storable then
          match findKey t (k.val env) ents 0 with
          |some (some (i,_))=>some (.ok .undef,⟨s.σ.set o (.mp g' (cl&&(v.val env).closed) (ents.set i (k.val env,v.val env))),s.ctr⟩)
          |some none=>some (.ok .undef,⟨s.σ.set o (.mp g' (cl&&(v.val env).closed) (ents++[(k.val env,v.val env)])),s.ctr⟩)
          |none=>none
      else none
     |_=>none
   |_=>none
 | .delete t m k=>match m.val env with
   | .map o g=>match nth s.σ o with
     |some (.mp g' cl ents)=>if g=g'∧Jg t (k.val env)then
          match findKey t (k.val env) ents 0 with
          |some (some (i,_))=>some (.ok .undef,⟨s.σ.set o (.mp g' cl (ents.eraseIdx i)),s.ctr⟩)
          |some none=>some (.ok .undef,s)
          |none=>none
      else none
     |_=>none
   |_=>none
 | .clear es x=>match x.val env with
   | .own o g off len=>match nth s.σ o with
     |some (.arr g' es' nn cl elems)=>if g=g'∧es=es'∧off+len≤elems.length then
          some (.ok .undef,⟨s.σ.set o (.arr g' es' nn cl (if len=0 then elems else elems.take off)),s.ctr⟩)
      else none
     |_=>none
   |_=>none
 | .ext x i=>match x.val env with
   | .CP cs=>ok s (nth cs i)
   |_=>none
 | .Acf f caps=>some (.ok (.fn f (vals env caps)),s)
 | .AeG t x=>let v:=x.val env
   if v.storable then some (.ok (.iface t v),s)else none
 | .panic x=>match x.val env with
   | .iface t v=>some (.Ef (.iface t v),s)
   |_=>none
 | .call m f args=>Ba C m f (vals env args) s
 | .GX m x args=>match x.val env with
   | .fn f caps=>Ba C m f (vals env args++caps) s
   |_=>none
def put (d:Option Nat) (v:AV) (env:Env):Env:=match d with
 |some t=>(t,v)::env
 |none=>env
def wanted (g:Option (Nat×Bool)) (env:Env):Option Bool:=match g with
 |none=>some true
 |some (t,b)=>match env.get t with
  | .bool b'=>some (b'==b)
  | .undef=>some false
  |_=>none
def C9 (C:Az):List AA→Env→Ai→Option (AL×Env×Ai)
 |[],env,s=>some (.normal,env,s)
 |o::os,env,s=>match wanted o.guard env with
  |none=>none
  |some false=>C9 C os (put o.dst .undef env) s
  |some true=>match Ag C o.op env s with
   |some (.ok v,s')=>C9 C os (put o.dst v env) s'
   |some (.Ef v,s')=>some (.Ef v,env,s')
   |none=>none
def MK:List AV→Nat→Option (Nat×Nat×Nat×Nat×Nat)
 |[],_=>none
 | .own o g off len::_,k=>some (k,o,g,off,len)
 |_::cs,k=>MK cs (k+1)
def FQ:List Nat→Env→Ai→Option (Env×Ai)
 |[],env,s=>some (env,s)
 |t::ts,env,s=>match env.get t with
  | .own o g off len=>match nth s.σ o with
    |some (.arr g' _ nn true elems)=>if g=g'∧off+len≤elems.length then FQ ts ((t,.sl nn (sub elems off len))::env) ⟨s.σ.set o .dead,s.ctr⟩else none
    |_=>none
  | .ref o g i off=>match nth s.σ o with
    |some (.arr g' _ _ true elems)=>if g=g' then match nth elems i with
         |some x=>FQ ts ((t,.CB (x.cells.drop off))::env) ⟨s.σ.set o .dead,s.ctr⟩
         |none=>none
     else none
    |some (.arr g' _ _ false [x])=>match MK x.cells 0 with
     |some (k,o2,g2,a2,n2)=>match nth s.σ o2 with
      |some (.arr g3 _ nn3 true IZ)=>if g=g'∧i=0∧off=0∧g2=g3∧o2≠o∧a2+n2≤IZ.length∧EW (x.cells.set k (.sl nn3 (sub IZ a2 n2)))=true then FQ ts ((t,.CB (x.cells.set k (.sl nn3 (sub IZ a2 n2))))::env) ⟨(s.σ.set o2 .dead).set o .dead,s.ctr⟩else none
      |_=>none
     |none=>none
    |_=>none
  | .map o g=>match nth s.σ o with
    |some (.mp g' true ents)=>if g=g'∧Ya ents=true then FQ ts ((t,.fmap ents)::env) ⟨s.σ.set o .dead,s.ctr⟩else none
    |_=>none
  | .sl nn xs=>FQ ts ((t,.sl nn xs)::env) s
  | .zc=>FQ ts ((t,.zc)::env) s
  |_=>none
def commit (env:Env):List Nat→Env
 |[]=>[]
 |t::ts=>(t,env.get t)::commit env ts
def kept (k len:Nat):Nat:=bif Nat.blt k 1000 then k else len-(k-1000)
def truncate (t:Option Nat) (s:Ai):Ai:=match t with
 |none=>s
 |some k=>⟨s.σ.take (kept k s.σ.length),s.ctr⟩
def iter (f:Env→Ai→Option (AL×Env×Ai)):Nat→Env→Ai→Option (AL×Env×Ai)
 |0,_,_=>none
 |n+1,env,s=>match f env s with
  |some (.normal,env',s')=>iter f n env' s'
  |r=>r
inductive Cls where
 |e|r|w|a
 deriving DecidableEq
def BO.cls:BO→Option Cls
 | .Yw _| .pick .. | .build .. | .bin .. | .un .. | .conv .. | .convs _| .field .. | .Qh .. | .Xa .. | .YB .. | .Acg .. | .KR .. | .min .. | .max .. | .ext .. | .Acf .. | .AeG .. | .PG _=>some .e
 | .load .. | .RD .. | .slice .. | .Rz _| .len .. | .lookup ..=>some .r
 | .store .. | .mapset .. | .delete .. | .clear ..=>some .w
 | .Jq _| .alloc .. | .box .. | .Hz .. | .Oe| .append ..=>some .a
 | .lit own ..=>some (bif own then .a else .e)
 | .call m ..=>match m with
   | .pure=>some .e
   | .own=>some .a
   |_=>none
 | .GX m ..=>match m with
   | .pure=>some .e
   | .own=>some .a
   |_=>none
 | .panic _| .JU ..=>none
def AV.obj:AV→List Nat
 | .own o _ _ _=>[o]
 | .ref o _ _ _=>[o]
 | .map o _=>[o]
 |_=>[]
def XK:Option AO→List AO
 |some x=>[x]
 |none=>[]
def BO.BD:BO→List AO
 | .Yw x| .box _ x| .load _ x| .PG x| .un _ x| .conv _ x| .convs x| .field _ _ x| .Qh _ x| .Rz x| .len _ x| .ext x _| .AeG _ x| .panic x| .clear _ x=>[x]
 | .Jq _| .alloc .. | .JU .. | .Oe=>[]
 | .pick c a b=>[c,a,b]
 | .build _ ps=>ps.map fun(_,_,x)=>x
 | .lit _ _ _ _ ps=>ps.map fun(_,x)=>x
 | .store _ a x| .bin _ _ a x| .RD _ a x| .Xa _ _ a x| .YB a x| .Acg _ _ _ a x| .min a x| .max a x| .append _ _ a x| .Hz _ _ _ a x| .lookup _ _ _ a x| .delete _ a x=>[a,x]
 | .slice _ x lo hi| .KR x lo hi=>x::(XK lo++XK hi)
 | .mapset _ m k v=>[m,k,v]
 | .Acf _ xs| .call _ _ xs=>xs
 | .GX _ x xs=>x::xs
def Du (env:Env):List AO→List Nat
 |[]=>[]
 |x::xs=>(x.val env).obj++Du env xs
def BO.reads (o:BO) (r:Nat) (env:Env):List Nat:=match o.cls with
 |some .r|some .w=>Du env o.BD
 |some .a=>r::Du env o.BD
 |_=>[]
def BO.writes (o:BO) (r:Nat) (env:Env):List Nat:=match o with
 | .store _ a _=>(a.val env).obj
 | .mapset _ m _ _=>(m.val env).obj
 | .delete _ m _=>(m.val env).obj
 | .clear _ x=>(x.val env).obj
 | .append _ _ a _=>r::(a.val env).obj
 |o=>match o.cls with
  |some .a=>[r]
  |_=>[]
def AV.moved (t g:Nat):AV→AV
 | .own _ _ off len=>.own t g off len
 | .ref _ _ i off=>.ref t g i off
 | .map _ _=>.map t g
 |v=>v
def Obj.Qz (g:Nat):Obj→Obj
 | .arr _ es nn cl elems=>.arr g es nn cl elems
 | .mp _ cl ents=>.mp g cl ents
 | .raw _ x=>.raw g x
 | .dead=>.dead
def AV.idx:AV→Nat
 | .own o _ _ _=>o
 | .ref o _ _ _=>o
 | .map o _=>o
 |_=>0
def IY (C:Az) (o:BO) (r g:Nat) (env:Env) (s:Ai):Option (AV×Option (Nat×Obj)×Nat):=
 match o.cls,Ag C o env s with
 |some .e,some (.ok v,_)=>some (v,none,0)
 |some .r,some (.ok v,_)=>some (v,none,0)
 |some .w,some (.ok v,s')=>match o.writes r env with
  |[t]=>match nth s'.σ t with
   |some ob=>some (v,some (t,ob),0)
   |none=>none
  |_=>none
 |some .a,some (.ok v,s')=>match nth s'.σ v.idx with
  |some ob=>if v.idx<s.σ.length then some (v.moved v.idx g,some (v.idx,ob.Qz g),1)
   else match nth s.σ r with
   |some .dead=>some (v.moved r g,some (r,ob.Qz g),1)
   |_=>none
  |none=>none
 |_,_=>none
structure Eff where
 dst:Option Nat
 v:AV
 rd:List Nat
 wr:List Nat
 upd:Option (Nat×Obj)
 bump:Nat
 deriving Inhabited
def EK (u:Option (Nat×Obj)) (b:Nat) (s:Ai):Ai:=match u with
 |some (t,ob)=>⟨s.σ.set t ob,s.ctr+b⟩
 |none=>⟨s.σ,s.ctr+b⟩
def rank (o:BO):Nat:=match o.cls with
 |some .a=>1
 |_=>0
def Hy (C:Az):List AA→Nat→Nat→Env→Ai→Option (List Eff)
 |[],_,_,_,_=>some []
 |o::os,r,g,env,s=>match wanted o.guard env with
  |none=>none
  |some false=>match Hy C os (r+rank o.op) (g+1) (put o.dst .undef env) s with
   |some es=>some (⟨o.dst,.undef,[],[],none,0⟩::es)
   |none=>none
  |some true=>match IY C o.op r g env s with
   |some (v,u,b)=>match Hy C os (r+rank o.op) (g+1) (put o.dst v env) (EK u b s)with
    |some es=>some (⟨o.dst,v,o.op.reads r env,o.op.writes r env,u,b⟩::es)
    |none=>none
   |none=>none
def N7:List Eff→Env→Env
 |[],env=>env
 |e::es,env=>N7 es (put e.dst e.v env)
def LU:List Eff→Ai→Ai
 |[],s=>s
 |e::es,s=>LU es (EK e.upd e.bump s)
def Dw (x:Nat):List Nat→Bool
 |[]=>false
 |y::ys=>bif Nat.beq x y then true else Dw x ys
def NG:List Nat→List Nat→Bool
 |[],_=>true
 |x::xs,ys=>bif Dw x ys then false else NG xs ys
def X8 (a b:Eff):Bool:=NG a.wr b.rd&&(NG a.wr b.wr&&NG a.rd b.wr)
def JO (es:List Eff):List (Nat×Nat)→Bool
 |[]=>true
 |(i,j)::ps=>match nth es i,nth es j with
  |some a,some b=>X8 a b&&JO es ps
  |_,_=>false
def ranks:List AA→Nat
 |[]=>0
 |o::os=>rank o.op+ranks os
def LW (C:Az) (m:Nat) (un:List (Nat×Nat)) (ops:List AA) (env:Env) (s:Ai):Option (Env×Ai):=
 match Hy C (ops.take m) s.σ.length s.ctr env ⟨s.σ++List.replicate (ranks (ops.take m)) .dead,s.ctr+m⟩with
 |some es=>if JO es un then some (N7 es env,LU es ⟨s.σ++List.replicate (ranks (ops.take m)) .dead,s.ctr+m⟩)else none
 |none=>none
def BO.E5:BO→Bool
 | .Jq _| .alloc .. | .JU .. | .box .. | .store .. | .append .. | .Hz .. | .Oe| .mapset .. | .delete .. | .clear .. | .panic _=>false
 | .lit own ..=>!own
 | .call m ..=>m==.pure||m==.borrow
 | .GX m ..=>m==.pure||m==.borrow
 |_=>true
def flt (o:AA):Bool:=match o.op.cls with
 |some .e=>o.op.E5
 |_=>false
mutual
def Bc:AV→AV→Bool
 | .bool a,.bool b=>decide (a=b)
 | .int k x,.int k' x'=>decide (k=k')&&decide (x=x')
 | .str a,.str b=>decide (a=b)
 | .sl b l,.sl b' l'=>decide (b=b')&&I4 l l'
 | .own o g i n,.own o' g' i' n'=>Nat.beq o o'&&Nat.beq g g'&&Nat.beq i i'&&Nat.beq n n'
 | .ref o g i n,.ref o' g' i' n'=>Nat.beq o o'&&Nat.beq g g'&&Nat.beq i i'&&Nat.beq n n'
 | .map o g,.map o' g'=>Nat.beq o o'&&Nat.beq g g'
 | .CB l,.CB l'=>I4 l l'
 | .agg l,.agg l'=>I4 l l'
 |_,_=>false
def I4:List AV→List AV→Bool
 |[],[]=>true
 |x::l,y::r=>Bc x y&&I4 l r
 |_,_=>false
end
def Ky (C:Az) (op:BO) (env:Env) (v:AV):List Ai→Bool
 |[]=>true
 |S::r=>match Ag C op env S with
  |some (.ok u,_)=>Bc u v&&Ky C op env v r
  |_=>false
def Kz (C:Az) (S:Ai):List (BO×Env×AV)→Bool
 |[]=>true
 |(op,env,v)::r=>match Ag C op env S with
  |some (.ok u,_)=>Bc u v&&Kz C S r
  |_=>false
def Eb (C:Az) (E:List Nat):List AA→Nat→Env→Ai→Bool
 |[],_,_,_=>true
 |o::os,i,env,s=>if Dw i E then match wanted o.guard env with
   |some true=>match Ag C o.op env s with
    |some (.ok v,_)=>flt o&&Eb C E os (i+1) (put o.dst v env) s
    |_=>false
   |some false=>Eb C E os (i+1) (put o.dst .undef env) s
   |none=>false
  else Eb C E os (i+1) env s
def FX (C:Az) (m:Nat) (W pc:List Nat):List AA→Nat→Env→Ai→List (BO×Env×AV)→List Ai→Option (AL×Env×Ai)
 |[],_,env,s,_,_=>some (.normal,env,s)
 |o::os,i,env,s,pend,past=>match wanted o.guard env with
  |none=>none
  |some false=>FX C m W pc os (i+1) (put o.dst .undef env) s pend past
  |some true=>match Ag C o.op env s with
   |some (.ok v,s1)=>
    if Dw i W then
          if o.op.E5&&Ky C o.op env v past then FX C m W pc os (i+1) (put o.dst v env) s ((o.op,env,v)::pend) past else none
    else if flt o||Nat.blt i m then FX C m W pc os (i+1) (put o.dst v env) s pend past
    else if Kz C s1 pend then FX C m W pc os (i+1) (put o.dst v env) s1 pend (s::past)else none
   |some (.Ef v,s1)=>match pc with
    |p::E=>if Nat.beq i p&&!(Dw i W||(flt o||Nat.blt i m))&&Eb C E os (i+1) env s then some (.Ef v,[],s1)else none
    |[]=>none
   |none=>none
def EO (C:Az) (N:Nat):AQ→Env→Ai→Option (AL×Env×Ai)
 | .skip,env,s=>some (.normal,env,s)
 | .region _ JQ ops live trunc,env,s=>match FQ JQ env s with
   |some (env,s)=>match C9 C ops env s with
    |some (.normal,env,s)=>some (.normal,commit env live,truncate trunc s)
    |r=>r
   |none=>none
 | .par m un JQ ops live trunc,env,s=>match FQ JQ env s with
   |some (env,s)=>match LW C m un ops env s with
    |some (env,s)=>match C9 C (ops.drop m) env s with
     |some (.normal,env,s)=>some (.normal,commit env live,truncate trunc s)
     |r=>r
    |none=>none
   |none=>none
 | .mix m W pc JQ ops live trunc,env,s=>match FQ JQ env s with
   |some (env,s)=>match FX C m W pc ops 0 env s [] []with
    |some (.normal,env,s)=>some (.normal,commit env live,truncate trunc s)
    |r=>r
   |none=>none
 | .seq a b,env,s=>match EO C N a env s with
   |some (.normal,env',s')=>EO C N b env' s'
   |r=>r
 | .cond c a b,env,s=>match c.val env with
   | .bool true=>EO C N a env s
   | .bool false=>EO C N b env s
   |_=>none
 | .block id a,env,s=>match EO C N a env s with
   |some (.exit j,env',s')=>if j=id then some (.normal,env',s')else some (.exit j,env',s')
   |r=>r
 | .loop live a,env,s=>iter (fun env s=>EO C N a (commit env live) s) N env s
 | .exit id,env,s=>some (.exit id,env,s)
 | .ret,env,s=>some (.ret,env,s)
inductive Ul where
 |tmp (t:Nat)
 |cell (t:Nat) (sz:Option Nat)
 deriving Inhabited
structure FK where
 np:Nat
 body:AQ
 results:List Ul
 deriving Inhabited
structure DFn where
 np:Nat
 Abi:AQ
 pre2:AQ
 post:AQ
 tcl:Nat
 cell:Nat
 tag:Nat
 results:List Ul
 deriving Inhabited
inductive Ht where
 |code (fn:FK)
 |ext (spec:List AV→Ai→Option (AB×Ai))
 |dfr (d:DFn)
def P9 (env:Env) (s:Ai):Ul→Option AV
 | .tmp t=>some (env.get t)
 | .cell t sz=>match env.get t with
   | .ref o g i off=>match nth s.σ o with
     |some (.arr g' _ _ _ elems)=>if g=g' then match nth elems i with
         |some x=>loadCells (x.cells.drop off) sz
         |none=>none
      else none
     |_=>none
   |_=>none
def Fb (env:Env) (s:Ai):List Ul→Option (List AV)
 |[]=>some []
 |r::rs=>match P9 env s r,Fb env s rs with
  |some v,some vs=>some (v::vs)
  |_,_=>none
def DW:List AV→AV
 |[v]=>v
 |vs=>.CP vs
def params:List AV→Nat→Env
 |[],_=>[]
 |v::vs,i=>(i,v)::params vs (i+1)
def evF (C:Az) (N:Nat) (fn:FK) (args:List AV) (s:Ai):Option (AB×Ai):=
 match EO C N fn.body (params args 0) s with
 |some (.normal,env,s')=>(Fb env s' fn.results).map fun vs=>(.ok (DW vs),s')
 |some (.ret,env,s')=>(Fb env s' fn.results).map fun vs=>(.ok (DW vs),s')
 |some (.Ef v,_,s')=>some (.Ef v,s')
 |_=>none
def Y3 (d:DFn) (env:Env) (s:Ai):Option (AB×Ai):=(Fb env s d.results).map fun vs=>(.ok (DW vs),s)
def Sm (C:Az) (d:DFn) (c v:AV) (env:Env) (s:Ai):Option (AB×Ai):=match v with
 | .iface t (.int k n)=>if t=d.tag then
    match Ag C (.store 1 (.cst c) (.cst (.int k n))) [] s with
    |some (.ok _,s')=>Y3 d env s'
    |_=>none
   else none
 |_=>none
def evD (C:Az) (N:Nat) (d:DFn) (args:List AV) (s:Ai):Option (AB×Ai):=
 match EO C N (.seq d.Abi d.pre2) (params args 0) s with
 |some (.ret,env,s1)=>Y3 d env s1
 |some (.Ef v,_,s1)=>some (.Ef v,s1)
 |some (.normal,env,s1)=>match env.get d.tcl with
  | .junk=>match EO C N d.post env s1 with
    |some (.normal,Dj,s2)=>Y3 d Dj s2
    |some (.ret,Dj,s2)=>Y3 d Dj s2
    |some (.Ef v,Dj,s2)=>Sm C d (env.get d.cell) v Dj s2
    |_=>none
  |_=>none
 |_=>none
def run (AP:Nat→Option Ht):Nat→Az
 |0=>fun _ _ _=>none
 |n+1=>fun f args s=>match AP f with
  |some (.code fn)=>if args.length=fn.np then evF (run AP n) n fn args s else none
  |some (.ext sp)=>sp args s
  |some (.dfr d)=>if args.length=d.np then evD (run AP n) n d args s else none
  |none=>none
end AI
end Go.Proofs.YtchcadfjbkkgmaaGreatDoor
