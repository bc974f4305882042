/- From the model's code to the abstract interpreter's: the types' tables are looked up once, the places of variables are marked as told. -/
import Derived.Test.YthjeehjphekjmaaGreatDoorBCore
namespace Go.Proofs.YthjeehjphekjmaaGreatDoor
namespace AI
inductive GZ where
 |own
 |Abw (off es:Nat)
 |mode (m:Mode)
 deriving Inhabited
structure Fb where
 id:Nat
 head:Option Nat:=none
 IK:List Nat:=[]
 live:List Nat:=[]
 trunc:Option Nat:=none
 ops:List (Nat×GZ):=[]
 hdr:List Nat:=[]
 par:Bool:=false
 mix:Bool:=false
 wob:List Nat:=[]
 pc:List Nat:=[]
 deriving Inhabited
def Wu:List (Nat×GZ)→Nat→Option GZ
 |[],_=>none
 |(j,a)::r,i=>if i=j then some a else Wu r i
def Eb:List Fb→Nat→Fb
 |[],i=>{id:=i}
 |a::r,i=>if a.id=i then a else Eb r i
def Lr:Value→Option AV
 | .bool b=>some (.bool b)
 | .int k n=>some (.int k n)
 | .string s=>some (.str s.data.toList)
 | .slice none 0 0=>some (.sl false [])
 | .pointer none=>some .H8
 | .map none=>some .CJ
 | .nilFunc=>some .EW
 | .nilIface=>some .F8
 | .func (.func f) fs cs=>if fs.size=0∧cs.size=0 then some (.fn f [])else none
 |_=>none
def ofValues:List Value→Option (List AV)
 |[]=>some []
 |v::vs=>match Lr v,ofValues vs with
  |some a,some b=>some (a::b)
  |_,_=>none
def ofValue:Value→Option AV
 | .agg cs=>(ofValues cs.toList).map .agg
 |v=>Lr v
def Aq:Operand→Option AO
 | .tmp t=>some (.tmp t)
 | .const v=>(ofValue v).map .cst
 | .func f=>some (.cst (.fn f []))
 | .global _=>none
def BH:List Operand→Option (List AO)
 |[]=>some []
 |v::vs=>match Aq v,BH vs with
  |some a,some b=>some (a::b)
  |_,_=>none
variable (P:Program)
def RJ (t:TypeId):Bool:=match P.underlying t with
 |some (.struct _)|some (.array _ _)=>true
 |_=>false
def BA (t:TypeId):Option Nat:=match P.info? t with
 |some i=>if 0<i.size then some i.size else none
 |none=>none
def X9 (t:TypeId):Option (Option Nat):=match P.underlying t,BA P t with
 |some (.struct _),some n=>some (some n)
 |some (.array _ _),some n=>some (some n)
 |some _,some 1=>some none
 |_,_=>none
def FI (t:TypeId):Option (Nat×AV):=match P.info? t,BA P t with
 |some i,some n=>match i.zero with
  |some z=>match ofValue z with
   |some v=>if v.cells.length=n then some (n,v)else none
   |none=>none
  |none=>none
 |_,_=>none
def Gn (t:TypeId):Option J7:=match P.underlying t with
 |some .bool=>some .bool
 |some (.int _)=>some .int
 |some .string=>some .str
 |_=>none
def QH:List Field→Nat→Option (List J7)
 |[],_=>some []
 |f::fs,i=>match Gn P f.type,QH fs (i+1)with
  | some k, some ks => if f.offset = i ∧ (f.name == "_") = false ∧ BA P f.type = some 1 then some (k :: ks) else none
  |_,_=>none
def Wv (t:TypeId):J7:=match P.underlying t with
 |some .bool=>.bool
 |some (.int _)=>.int
 |some .string=>.str
 |some (.slice _)=>.slice
 |some (.pointer _)=>.ptr
 |some (.func _ _ _)=>.func
 |some (.map _ _)=>.map
 |some (.struct fs)=>match QH P fs.toList 0 with
  |some ks=>if P.eqGuardType P.depth t=false∧P.stoodInHeld t=false∧BA P t=some ks.length then .flat ks else .other
  |none=>.other
 |_=>.other
def KN (fs:List Field):List (Nat×Operand)→Option (List (Nat×Nat×AO))
 |[]=>some []
 |(i,x)::ps=>match nth fs i,Aq x,KN fs ps with
  |some f,some a,some r=>match BA P f.type with
   |some n=>some ((f.offset,n,a)::r)
   |none=>none
  |_,_,_=>none
def G5 (es:Nat):List (Nat×Operand)→Option (List (Nat×Nat×AO))
 |[]=>some []
 |(i,x)::ps=>match Aq x,G5 es ps with
  |some a,some r=>some ((i*es,es,a)::r)
  |_,_=>none
def Il:List (Nat×Operand)→Option (List (Nat×AO))
 |[]=>some []
 |(i,x)::ps=>match Aq x,Il ps with
  |some a,some r=>some ((i,a)::r)
  |_,_=>none
def EO:Option Operand→Option (Option AO)
 |none=>some none
 |some x=>(Aq x).map some
def isZero:Option Operand→Bool
 |some (.const (.int _ 0))=>true
 |_=>false
def TL (m:Mode) (c:Call):Option BP:=
 match c.callee,BH c.args.toList with
 | .value (.func f),some args=>some (.call m f args)
 | .value (.tmp t),some args=>some (.F9 m (.tmp t) args)
 | .builtin .len,some [x]=>match nth c.argTypes.toList 0 with
   |some t=>match P.underlying t with
    |some .string=>some (.len .str x)
    |some (.slice _)=>some (.len .slice x)
    |some (.map _ _)=>some (.len .map x)
    |_=>none
   |none=>none
 | .builtin .min,some [x,y]=>some (.min x y)
 | .builtin .max,some [x,y]=>some (.max x y)
 | .builtin .append,some [x,y]=>match c.argTypes.toList with
   |[t,t']=>match P.underlying t with
    |some (.slice e)=>match FI P e,P.info? e with
     |some (es,_),some i=>if 0<i.bytes∧t=t' then some (.append es i.bytes x y)else none
     |_,_=>none
    |_=>none
   |_=>none
 | .builtin .clear,some [x]=>match c.argTypes.toList with
   |[t]=>match P.underlying t with
    |some (.slice e)=>match FI P e with
     |some (es,_)=>some (.clear es x)
     |none=>none
    |_=>none
   |_=>none
 | .builtin .delete,some [m,k]=>match c.argTypes.toList with
   |t::_=>match P.underlying t with
    |some (.map kt _)=>(Gn P kt).map fun l=>.delete l m k
    |_=>none
   |_=>none
 | .builtin .cap,some [x]=>match nth c.argTypes.toList 0 with
   |some t=>match P.underlying t with
    |some (.slice _)=>some (.len .func x)
    |_=>none
   |none=>none
 |_,_=>none
def Ab3:Option GZ→Mode
 |some (.mode m)=>m
 |_=>.pure
def Nj (o:Oper) (ann:Option GZ):Option BP:=
 match o.op with
 | .move x=>(Aq x).map .mov
 | .assign x=>match ann with
   |some .own=>match x,P.underlying o.type with
    | .const (.slice none 0 0),some (.slice e)=>(BA P e).map .H9
    |_,_=>none
   |_=>(Aq x).map .mov
 | .pick c a b=>match Aq c,Aq a,Aq b with
   |some c,some a,some b=>some (.pick c a b)
   |_,_,_=>none
 | .alloc t=>match ann with
   |some (.Abw off e2)=>match FI P t with
    |some (n,.agg cs)=>some (.IL off e2 n cs)
    |_=>none
   |_=>(FI P t).map fun(n,z)=>.alloc n z
 | .box t x=>match BA P t,Aq x with
   |some n,some x=>some (.box n x)
   |_,_=>none
 | .build t parts=>match FI P t with
   |some (_,.agg z)=>match P.underlying t with
    |some (.struct fs)=>if fs.toList.all (fun f=>(BA P f.type).isSome)then(KN P fs.toList parts.toList).map (.build z)else none
    |some (.array _ e)=>match BA P e with
     |some es=>(G5 es parts.toList).map (.build z)
     |none=>none
    |_=>none
   |_=>none
 | .buildSlice t len parts=>match P.underlying t with
   |some (.slice e)=>match FI P e,Il parts.toList with
    |some (es,z),some ps=>if len*es≤16777216 then some (.lit (match ann with|some .own=>true|_=>false) es z len ps)else none
    |_,_=>none
   |_=>none
 | .load t a=>match X9 P t,Aq a with
   |some sz,some a=>some (.load sz a)
   |_,_=>none
 | .store t a x=>match BA P t,Aq a,Aq x with
   |some n,some a,some x=>some (.store n a x)
   |_,_,_=>none
 | .nilCheck x=>(Aq x).map .Nk
 | .binOp op t x y _=>match Aq x,Aq y with
   |some x,some y=>some (.bin op (Wv P t) x y)
   |_,_=>none
 | .unOp op _ x=>(Aq x).map (.un op)
 | .convert src dst x=>match P.underlying src,P.underlying dst,Aq x with
   |some (.int _),some (.int k),some x=>some (.conv k x)
   |some .string,some .string,some x=>some (.convs x)
   |_,_,_=>none
 | .makeInterface t x=>match P.underlying t with
   |some (.interface _)=>none
   |some _=>(Aq x).map (.Aap t)
   |none=>none
 | .makeFunc (.func f) fs caps=>if fs.size=0 then(BH caps.toList).map (.Yd f)else none
 | .makeMap _ none=>some .Ls
 | .makeSlice t l c=>match P.underlying t with
   |some (.slice e)=>match FI P e,P.info? e,Aq l,Aq c with
    |some (es,z),some i,some l,some c=>if 0<i.bytes then some (.Gu es i.bytes z l c)else none
    |_,_,_,_=>none
   |_=>none
 | .slice t x lo hi mx=>match P.underlying t,Aq x,mx with
   |some (.slice e),some x,none=>match BA P e,EO lo,EO hi with
    |some es,some lo,some hi=>some (.slice es x lo hi)
    |_,_,_=>none
   |some .string,some x,none=>match EO lo,EO hi with
    |some lo,some hi=>some (.Jz x lo hi)
    |_,_=>none
   |some (.slice e),some x,some mx=>if(lo.isNone||isZero lo)&&isZero hi&&isZero (some mx)&&(BA P e).isSome then some (.OM x)else none
   |_,_,_=>none
 | .fieldAddr t x f=>match P.underlying t,Aq x with
   |some (.struct fs),some x=>match nth fs.toList f with
    |some fd=>(BA P fd.type).map fun _=>.OO fd.offset x
    |none=>none
   |_,_=>none
 | .field t x f=>match P.underlying t,Aq x with
   |some (.struct fs),some x=>match nth fs.toList f with
    |some fd=>(X9 P fd.type).map fun sz=>.field fd.offset sz x
    |none=>none
   |_,_=>none
 | .indexAddr t x i=>match P.underlying t,Aq x,Aq i with
   |some (.slice e),some x,some i=>(BA P e).map fun es=>.OQ es x i
   |some (.array n e),some x,some i=>(BA P e).map fun es=>.TM es n x i
   |_,_,_=>none
 | .index t x i=>match P.underlying t,Aq x,Aq i with
   |some .string,some x,some i=>some (.U9 x i)
   |some (.array n e),some x,some i=>match BA P e,X9 P e with
    |some es,some sz=>some (.Ye es n sz x i)
    |_,_=>none
   |_,_,_=>none
 | .lookup t m k Ou=>match P.underlying t,Aq m,Aq k with
   |some (.map kt e),some m,some k=>match Gn P kt,FI P e with
    |some l,some (_,z)=>some (.lookup l z Ou m k)
    |_,_=>none
   |_,_,_=>none
 | .mapUpdate t m k v| .insert t m k v=>match P.underlying t,Aq m,Aq k,Aq v with
   |some (.map kt _),some m,some k,some v=>(Gn P kt).map fun l=>.mapset l m k v
   |_,_,_,_=>none
 | .extract x i=>(Aq x).map fun x=>.ext x i
 | .panic x=>(Aq x).map .panic
 | .call c=>TL P (Ab3 ann) c
 |_=>none
def GH (ops:Array Oper) (n:Nat):Option (Nat×Bool)→Option (Option (Nat×Bool))
 |none=>some none
 |some (j,b)=>match(ops[j]?).bind (·.dst)with
  |some t=>if t<n then some (some (t,b))else none
  |none=>none
def Wx (n:Nat):Option Nat→Bool
 |some d=>decide (d<n)
 |none=>true
def Dc (ops:Array Oper) (n:Nat) (an:List (Nat×GZ)):List Oper→Nat→Option (List AL)
 |[],_=>some []
 |o::os,i=>match Nj P o (Wu an i),GH ops n o.guard,Dc ops n an os (i+1)with
  |some ao,some g,some r=>if Wx n o.dst then some (⟨o.dst,ao,g⟩::r)else none
  |_,_,_=>none
def AO.slots:AO→List Nat
 | .tmp t=>[t]
 | .cst _=>[]
def slotsOf (o:AL):List Nat:=
 o.dst.toList++o.op.BQ.flatMap AO.slots++(match o.guard with|some (t,_)=>[t]|none=>[])
def RN (ops:Array Oper) (BQ:List AL) (m:Nat):Bool:=
 let b:=Region.before ops
 (List.range ops.size).all fun j=>match ops[j]?,BQ[j]? with
    |some o,some ao=>
     (o.after.toList.all fun e=>!Region.binds .any e||decide (e.on<j))&&
     ((List.range ops.size).all fun i=>i==j||match(ops[i]?).bind (·.dst)with
       |some t=>!(slotsOf ao).contains t||(if i<j then(b.getD j 0).testBit i else(b.getD i 0).testBit j)
       |none=>true)&&
     (decide (j<m)||(List.range j).all fun i=>(b.getD j 0).testBit i)
    |_,_=>false
def EI (m:Nat) (os:List AL):Bool:=(os.take m).all fun o=>o.op.EF
def IQ (o:AL):Nat:=match o.op.cls with
 |some .e=>0
 |some .r=>1
 |some .w=>2
 |some .a=>3
 |none=>4
def Aaq (m:Nat) (os:List AL):Bool:=(os.take m).all fun o=>IQ o != 4
def Ov (ops:Array Oper) (os:List AL) (m:Nat):List (Nat×Nat):=
 let b:=Region.before ops
 (List.range m).flatMap fun j=>((List.range j).filter fun i=>match os[i]?,os[j]? with
    |some oi,some oj=>!(b.getD j 0).testBit i&&IQ oi != 0&&IQ oj != 0&&(IQ oi != 1||IQ oj != 1)
    |_,_=>false).map fun i=>(i,j)
def Hr:Code→Nat
 | .region id _ _=>id
 | .seq a _=>Hr a
 | .cond _ a _=>Hr a
 | .block _ a=>Hr a
 | .loop a=>Hr a
 |_=>0
def TP (ops:Array Oper) (BQ:List AL) (m:Nat) (W pc:List Nat):Bool:=
 let b:=Region.before ops
 (match pc with
 |p::E=>(E.all fun i=>!CZ i W)&&(List.range ops.size).all fun j=>decide (j≤p)||CZ j E||(b.getD j 0).testBit p
 |[]=>true)&&
 (List.range ops.size).all fun j=>match ops[j]?,BQ[j]? with
    |some o,some ao=>
     (o.after.toList.all fun e=>!Region.binds .any e||decide (e.on<j))&&
     ((List.range ops.size).all fun i=>i==j||match(ops[i]?).bind (·.dst)with
       |some t=>!(slotsOf ao).contains t||(if i<j then(b.getD j 0).testBit i else(b.getD i 0).testBit j)
       |none=>true)&&
     (decide (j<m)||flt ao||CZ j W||(List.range j).all fun i=>(match BQ[i]? with|some ai=>flt ai|none=>false)||CZ i W||(b.getD j 0).testBit i)
    |_,_=>false
def Nl:Am:=.cond (.cst (.int .i64 0)) .skip .skip
def BN (n:Nat) (an:List Fb):Code→Option Am
 | .skip=>some .skip
 | .region id ops draw=>
   let a:=Eb an id
   match Dc P ops n a.ops ops.toList 0 with
   |some os=>if draw then
     let m:=a.head.getD os.length
     if a.par then
          if RN ops os m&&Aaq m os&&decide (m≤ops.size)then some (.par m (Ov ops os m) a.IK os a.live a.trunc)else none
     else if a.mix then
          if TP ops os m a.wob a.pc&&EI m os then some (.mix m a.wob a.pc a.IK os a.live a.trunc)else none
     else if RN ops os m&&EI m os then some (.region (some m) a.IK os a.live a.trunc)else none
    else some (.region none a.IK os a.live a.trunc)
   |none=>some Nl
 | .seq x y=>match BN n an x,BN n an y with
   |some a,some b=>some (.seq a b)
   |_,_=>none
 | .cond c x y=>match Aq c,BN n an x,BN n an y with
   |some c,some a,some b=>some (.cond c a b)
   |_,_,_=>none
 | .block id x=>(BN n an x).map (.block id)
 | .loop x=>(BN n an x).map (.loop (Eb an (Hr x)).hdr)
 | .exit id=>some (.exit id)
 | .ret=>some .ret
 |_=>some Nl
def Fg (n:Nat):List ResultVar→Option (List RP)
 |[]=>some []
 | .tmp t::rs=>if t<n then(Fg n rs).map (.tmp t::·)else none
 | .cell a t::rs=>match X9 P t,Fg n rs with
   |some sz,some r=>some (.cell a sz::r)
   |_,_=>none
def KC (an:List Fb) (f:Func):Option FK:=
 match f.body with
 |some b=>match BN P f.ntmps an b,Fg P f.ntmps f.results.toList with
  |some c,some rs=>if f.params.size+f.nfree≤f.ntmps then some ⟨f.params.size+f.nfree,c,rs⟩else none
  |_,_=>none
 |none=>none
def G6:List AL→Nat→List (Nat×GZ)
 |[],_=>[]
 |o::os,i=>match o.op with
  | .call .pure _ _=>G6 os (i+1)
  | .call m _ _=>(i,.mode m)::G6 os (i+1)
  | .F9 .pure _ _=>G6 os (i+1)
  | .F9 m _ _=>(i,.mode m)::G6 os (i+1)
  | .H9 _=>(i,.own)::G6 os (i+1)
  | .lit true _ _ _ _=>(i,.own)::G6 os (i+1)
  | .IL off e2 _ _=>(i,.Abw off e2)::G6 os (i+1)
  |_=>G6 os (i+1)
def Yf (i:Nat) (l:List Nat):List Fb→List Fb
 |[]=>[]
 |a::r=>if a.id=i then{a with hdr:=l}::r else a::Yf i l r
def anZ:Code→Am→List Fb
 | .region id _ _,.region h IK ops live tr=>[{id:=id,head:=h,IK:=IK,live:=live,trunc:=tr,ops:=G6 ops 0}]
 | .region id _ _,.par m _ IK ops live tr=>[{id:=id,head:=some m,IK:=IK,live:=live,trunc:=tr,ops:=G6 ops 0,par:=true}]
 | .region id _ _,.mix m W pc IK ops live tr=>[{id:=id,wob:=W,pc:=pc,head:=some m,IK:=IK,live:=live,trunc:=tr,ops:=G6 ops 0,mix:=true}]
 | .seq a b,.seq x y=>anZ a x++anZ b y
 | .cond _ a b,.cond _ x y=>anZ a x++anZ b y
 | .block _ a,.block _ x=>anZ a x
 | .loop a,.loop live x=>Yf (Hr a) live (anZ a x)
 |_,_=>[]
def anF (f:Func) (a:FK):List Fb:=match f.body with
 |some b=>anZ b a.body
 |none=>[]
def cok (f:Func) (a:FK):Option FK:=KC P (anF f a) f
end AI
end Go.Proofs.YthjeehjphekjmaaGreatDoor
