/- From the model's code to the abstract interpreter's: the types' tables are looked up once, the places of variables are marked as told. -/
import Derived.Test.YtjijnamhalgamaaGreatDoorBCore
namespace Go.Proofs.YtjijnamhalgamaaGreatDoor
namespace AI
inductive Js where
 |own
 |AiL (off es:Nat)
 |mode (m:Mode)
 deriving Inhabited
structure JL where
 id:Nat
 head:Option Nat:=none
 KO:List Nat:=[]
 live:List Nat:=[]
 trunc:Option Nat:=none
 ops:List (Nat×Js):=[]
 hdr:List Nat:=[]
 par:Bool:=false
 mix:Bool:=false
 wob:List Nat:=[]
 pc:List Nat:=[]
 deriving Inhabited
def Aar:List (Nat×Js)→Nat→Option Js
 |[],_=>none
 |(j,a)::r,i=>if i=j then some a else Aar r i
def EZ:List JL→Nat→JL
 |[],i=>{id:=i}
 |a::r,i=>if a.id=i then a else EZ r i
def PN:Value→Option AV
 | .bool b=>some (.bool b)
 | .int k n=>some (.int k n)
 | .string s=>some (.str s.data.toList)
 | .slice none 0 0=>some (.sl false [])
 | .pointer none=>some .JI
 | .map none=>some .Dt
 | .nilFunc=>some .Gh
 | .nilIface=>some .Ib
 | .func (.func f) fs cs=>if fs.size=0∧cs.size=0 then some (.fn f [])else none
 |_=>none
def ofValues:List Value→Option (List AV)
 |[]=>some []
 |v::vs=>match PN v,ofValues vs with
  |some a,some b=>some (a::b)
  |_,_=>none
def ofValue:Value→Option AV
 | .agg cs=>(ofValues cs.toList).map .agg
 |v=>PN v
def Az:Operand→Option AO
 | .tmp t=>some (.tmp t)
 | .const v=>(ofValue v).map .cst
 | .func f=>some (.cst (.fn f []))
 | .global _=>none
def BL:List Operand→Option (List AO)
 |[]=>some []
 |v::vs=>match Az v,BL vs with
  |some a,some b=>some (a::b)
  |_,_=>none
variable (P:Program)
def WQ (t:TypeId):Bool:=match P.underlying t with
 |some (.struct _)|some (.array _ _)=>true
 |_=>false
def BA (t:TypeId):Option Nat:=match P.info? t with
 |some i=>if 0<i.size then some i.size else none
 |none=>none
def szT (t:TypeId):Option (Option Nat):=match P.underlying t,BA P t with
 |some (.struct _),some n=>some (some n)
 |some (.array _ _),some n=>some (some n)
 |some _,some 1=>some none
 |_,_=>none
def Gw (t:TypeId):Option (Nat×AV):=match P.info? t,BA P t with
 |some i,some n=>match i.zero with
  |some z=>match ofValue z with
   |some v=>if v.cells.length=n then some (n,v)else none
   |none=>none
  |none=>none
 |_,_=>none
def IB (t:TypeId):Option MP:=match P.underlying t with
 |some .bool=>some .bool
 |some (.int _)=>some .int
 |some .string=>some .str
 |_=>none
def Vp:List Field→Nat→Option (List MP)
 |[],_=>some []
 |f::fs,i=>match IB P f.type,Vp fs (i+1)with
  | some k, some ks => if f.offset = i ∧ (f.name == "_") = false ∧ BA P f.type = some 1 then some (k :: ks) else none
  |_,_=>none
def Yd (t:TypeId):MP:=match P.underlying t with
 |some .bool=>.bool
 |some (.int _)=>.int
 |some .string=>.str
 |some (.slice _)=>.slice
 |some (.pointer _)=>.ptr
 |some (.func _ _ _)=>.func
 |some (.map _ _)=>.map
 |some (.struct fs)=>match Vp P fs.toList 0 with
  |some ks=>if P.eqGuardType P.depth t=false∧P.stoodInHeld t=false∧BA P t=some ks.length then .flat ks else .other
  |none=>.other
 |_=>.other
def N9 (fs:List Field):List (Nat×Operand)→Option (List (Nat×Nat×AO))
 |[]=>some []
 |(i,x)::ps=>match nth fs i,Az x,N9 fs ps with
  |some f,some a,some r=>match BA P f.type with
   |some n=>some ((f.offset,n,a)::r)
   |none=>none
  |_,_,_=>none
def Je (es:Nat):List (Nat×Operand)→Option (List (Nat×Nat×AO))
 |[]=>some []
 |(i,x)::ps=>match Az x,Je es ps with
  |some a,some r=>some ((i*es,es,a)::r)
  |_,_=>none
def JX:List (Nat×Operand)→Option (List (Nat×AO))
 |[]=>some []
 |(i,x)::ps=>match Az x,JX ps with
  |some a,some r=>some ((i,a)::r)
  |_,_=>none
def F9:Option Operand→Option (Option AO)
 |none=>some none
 |some x=>(Az x).map some
def isZero:Option Operand→Bool
 |some (.const (.int _ 0))=>true
 |_=>false
def X5 (m:Mode) (c:Call):Option Cj:=
 match c.callee,BL c.args.toList with
 | .value (.func f),some args=>some (.call m f args)
 | .value (.tmp t),some args=>some (.Ia m (.tmp t) args)
 | .builtin .len,some [x]=>match nth c.argTypes.toList 0 with
   |some t=>match P.underlying t with
    |some .string=>some (.len .str x)
    |some (.slice _)=>some (.len .slice x)
    |some (.map _ _)=>some (.len .map x)
    |_=>none
   |none=>none
 | .builtin .min,some [x,y]=>some (.min x y)
 | .builtin .max,some [x,y]=>some (.max x y)
 | .builtin .append,some [x,y]=>match c.argTypes.toList with
   |[t,t']=>match P.underlying t with
    |some (.slice e)=>match Gw P e,P.info? e with
     |some (es,_),some i=>if 0<i.bytes∧t=t' then some (.append es i.bytes x y)else none
     |_,_=>none
    |_=>none
   |_=>none
 | .builtin .clear,some [x]=>match c.argTypes.toList with
   |[t]=>match P.underlying t with
    |some (.slice e)=>match Gw P e with
     |some (es,_)=>some (.clear es x)
     |none=>none
    |_=>none
   |_=>none
 | .builtin .delete,some [m,k]=>match c.argTypes.toList with
   |t::_=>match P.underlying t with
    |some (.map kt _)=>(IB P kt).map fun l=>.delete l m k
    |_=>none
   |_=>none
 | .builtin .cap,some [x]=>match nth c.argTypes.toList 0 with
   |some t=>match P.underlying t with
    |some (.slice _)=>some (.len .func x)
    |_=>none
   |none=>none
 |_,_=>none
def Akq:Option Js→Mode
 |some (.mode m)=>m
 |_=>.pure
def Qi (o:Oper) (ann:Option Js):Option Cj:=
 match o.op with
 | .move x=>(Az x).map .mov
 | .assign x=>match ann with
   |some .own=>match x,P.underlying o.type with
    | .const (.slice none 0 0),some (.slice e)=>(BA P e).map .JH
    |_,_=>none
   |_=>(Az x).map .mov
 | .pick c a b=>match Az c,Az a,Az b with
   |some c,some a,some b=>some (.pick c a b)
   |_,_,_=>none
 | .alloc t=>match ann with
   |some (.AiL off e2)=>match Gw P t with
    |some (n,.agg cs)=>some (.KD off e2 n cs)
    |_=>none
   |_=>(Gw P t).map fun(n,z)=>.alloc n z
 | .box t x=>match BA P t,Az x with
   |some n,some x=>some (.box n x)
   |_,_=>none
 | .build t parts=>match Gw P t with
   |some (_,.agg z)=>match P.underlying t with
    |some (.struct fs)=>if fs.toList.all (fun f=>(BA P f.type).isSome)then(N9 P fs.toList parts.toList).map (.build z)else none
    |some (.array _ e)=>match BA P e with
     |some es=>(Je es parts.toList).map (.build z)
     |none=>none
    |_=>none
   |_=>none
 | .buildSlice t len parts=>match P.underlying t with
   |some (.slice e)=>match Gw P e,JX parts.toList with
    |some (es,z),some ps=>if len*es≤16777216 then some (.lit (match ann with|some .own=>true|_=>false) es z len ps)else none
    |_,_=>none
   |_=>none
 | .load t a=>match szT P t,Az a with
   |some sz,some a=>some (.load sz a)
   |_,_=>none
 | .store t a x=>match BA P t,Az a,Az x with
   |some n,some a,some x=>some (.store n a x)
   |_,_,_=>none
 | .nilCheck x=>(Az x).map .Qo
 | .binOp op t x y _=>match Az x,Az y with
   |some x,some y=>some (.bin op (Yd P t) x y)
   |_,_=>none
 | .unOp op _ x=>(Az x).map (.un op)
 | .convert src dst x=>match P.underlying src,P.underlying dst,Az x with
   |some (.int _),some (.int k),some x=>some (.conv k x)
   |some .string,some .string,some x=>some (.convs x)
   |_,_,_=>none
 | .makeInterface t x=>match P.underlying t with
   |some (.interface _)=>none
   |some _=>(Az x).map (.Ahg t)
   |none=>none
 | .makeFunc (.func f) fs caps=>if fs.size=0 then(BL caps.toList).map (.Adn f)else none
 | .makeMap _ none=>some .O8
 | .makeSlice t l c=>match P.underlying t with
   |some (.slice e)=>match Gw P e,P.info? e,Az l,Az c with
    |some (es,z),some i,some l,some c=>if 0<i.bytes then some (.IJ es i.bytes z l c)else none
    |_,_,_,_=>none
   |_=>none
 | .slice t x lo hi mx=>match P.underlying t,Az x,mx with
   |some (.slice e),some x,none=>match BA P e,F9 lo,F9 hi with
    |some es,some lo,some hi=>some (.slice es x lo hi)
    |_,_,_=>none
   |some .string,some x,none=>match F9 lo,F9 hi with
    |some lo,some hi=>some (.LH x lo hi)
    |_,_=>none
   |some (.slice e),some x,some mx=>if(lo.isNone||isZero lo)&&isZero hi&&isZero (some mx)&&(BA P e).isSome then some (.RS x)else none
   |_,_,_=>none
 | .fieldAddr t x f=>match P.underlying t,Az x with
   |some (.struct fs),some x=>match nth fs.toList f with
    |some fd=>(BA P fd.type).map fun _=>.SH fd.offset x
    |none=>none
   |_,_=>none
 | .field t x f=>match P.underlying t,Az x with
   |some (.struct fs),some x=>match nth fs.toList f with
    |some fd=>(szT P fd.type).map fun sz=>.field fd.offset sz x
    |none=>none
   |_,_=>none
 | .indexAddr t x i=>match P.underlying t,Az x,Az i with
   |some (.slice e),some x,some i=>(BA P e).map fun es=>.SI es x i
   |some (.array n e),some x,some i=>(BA P e).map fun es=>.Ye es n x i
   |_,_,_=>none
 | .index t x i=>match P.underlying t,Az x,Az i with
   |some .string,some x,some i=>some (.Y7 x i)
   |some (.array n e),some x,some i=>match BA P e,szT P e with
    |some es,some sz=>some (.AeM es n sz x i)
    |_,_=>none
   |_,_,_=>none
 | .lookup t m k Rq=>match P.underlying t,Az m,Az k with
   |some (.map kt e),some m,some k=>match IB P kt,Gw P e with
    |some l,some (_,z)=>some (.lookup l z Rq m k)
    |_,_=>none
   |_,_,_=>none
 | .mapUpdate t m k v| .insert t m k v=>match P.underlying t,Az m,Az k,Az v with
   |some (.map kt _),some m,some k,some v=>(IB P kt).map fun l=>.mapset l m k v
   |_,_,_,_=>none
 | .extract x i=>(Az x).map fun x=>.ext x i
 | .panic x=>(Az x).map .panic
 | .call c=>X5 P (Akq ann) c
 |_=>none
def I5 (ops:Array Oper) (n:Nat):Option (Nat×Bool)→Option (Option (Nat×Bool))
 |none=>some none
 |some (j,b)=>match(ops[j]?).bind (·.dst)with
  |some t=>if t<n then some (some (t,b))else none
  |none=>none
def Adl (n:Nat):Option Nat→Bool
 |some d=>decide (d<n)
 |none=>true
def FY (ops:Array Oper) (n:Nat) (an:List (Nat×Js)):List Oper→Nat→Option (List AX)
 |[],_=>some []
 |o::os,i=>match Qi P o (Aar an i),I5 ops n o.guard,FY ops n an os (i+1)with
  |some ao,some g,some r=>if Adl n o.dst then some (⟨o.dst,ao,g⟩::r)else none
  |_,_,_=>none
def AO.slots:AO→List Nat
 | .tmp t=>[t]
 | .cst _=>[]
def slotsOf (o:AX):List Nat:=
 o.dst.toList++o.op.CX.flatMap AO.slots++(match o.guard with|some (t,_)=>[t]|none=>[])
def V5 (ops:Array Oper) (CX:List AX) (m:Nat):Bool:=
 let b:=Region.before ops
 (List.range ops.size).all fun j=>match ops[j]?,CX[j]? with
    |some o,some ao=>
     (o.after.toList.all fun e=>!Region.binds .any e||decide (e.on<j))&&
     ((List.range ops.size).all fun i=>i==j||match(ops[i]?).bind (·.dst)with
       |some t=>!(slotsOf ao).contains t||(if i<j then(b.getD j 0).testBit i else(b.getD i 0).testBit j)
       |none=>true)&&
     (decide (j<m)||(List.range j).all fun i=>(b.getD j 0).testBit i)
    |_,_=>false
def FT (m:Nat) (os:List AX):Bool:=(os.take m).all fun o=>o.op.FH
def KZ (o:AX):Nat:=match o.op.cls with
 |some .e=>0
 |some .r=>1
 |some .w=>2
 |some .a=>3
 |none=>4
def Ahh (m:Nat) (os:List AX):Bool:=(os.take m).all fun o=>KZ o != 4
def Ry (ops:Array Oper) (os:List AX) (m:Nat):List (Nat×Nat):=
 let b:=Region.before ops
 (List.range m).flatMap fun j=>((List.range j).filter fun i=>match os[i]?,os[j]? with
    |some oi,some oj=>!(b.getD j 0).testBit i&&KZ oi != 0&&KZ oj != 0&&(KZ oi != 1||KZ oj != 1)
    |_,_=>false).map fun i=>(i,j)
def JC:Code→Nat
 | .region id _ _=>id
 | .seq a _=>JC a
 | .cond _ a _=>JC a
 | .block _ a=>JC a
 | .loop a=>JC a
 |_=>0
def Yf (ops:Array Oper) (CX:List AX) (m:Nat) (W pc:List Nat):Bool:=
 let b:=Region.before ops
 (match pc with
 |p::E=>(E.all fun i=>!DL i W)&&(List.range ops.size).all fun j=>decide (j≤p)||DL j E||(b.getD j 0).testBit p
 |[]=>true)&&
 (List.range ops.size).all fun j=>match ops[j]?,CX[j]? with
    |some o,some ao=>
     (o.after.toList.all fun e=>!Region.binds .any e||decide (e.on<j))&&
     ((List.range ops.size).all fun i=>i==j||match(ops[i]?).bind (·.dst)with
       |some t=>!(slotsOf ao).contains t||(if i<j then(b.getD j 0).testBit i else(b.getD i 0).testBit j)
       |none=>true)&&
     (decide (j<m)||flt ao||DL j W||(List.range j).all fun i=>(match CX[i]? with|some ai=>flt ai|none=>false)||DL i W||(b.getD j 0).testBit i)
    |_,_=>false
def Qu:Bf:=.cond (.cst (.int .i64 0)) .skip .skip
def EL (n:Nat) (an:List JL):Code→Option Bf
 | .skip=>some .skip
 | .region id ops draw=>
   let a:=EZ an id
   match FY P ops n a.ops ops.toList 0 with
   |some os=>if draw then
     let m:=a.head.getD os.length
     if a.par then
          if V5 ops os m&&Ahh m os&&decide (m≤ops.size)then some (.par m (Ry ops os m) a.KO os a.live a.trunc)else none
     else if a.mix then
          if Yf ops os m a.wob a.pc&&FT m os then some (.mix m a.wob a.pc a.KO os a.live a.trunc)else none
     else if V5 ops os m&&FT m os then some (.region (some m) a.KO os a.live a.trunc)else none
    else some (.region none a.KO os a.live a.trunc)
   |none=>some Qu
 | .seq x y=>match EL n an x,EL n an y with
   |some a,some b=>some (.seq a b)
   |_,_=>none
 | .cond c x y=>match Az c,EL n an x,EL n an y with
   |some c,some a,some b=>some (.cond c a b)
   |_,_,_=>none
 | .block id x=>(EL n an x).map (.block id)
 | .loop x=>(EL n an x).map (.loop (EZ an (JC x)).hdr)
 | .exit id=>some (.exit id)
 | .ret=>some .ret
 |_=>some Qu
def F6 (n:Nat):List ResultVar→Option (List WR)
 |[]=>some []
 | .tmp t::rs=>if t<n then(F6 n rs).map (.tmp t::·)else none
 | .cell a t::rs=>match szT P t,F6 n rs with
   |some sz,some r=>some (.cell a sz::r)
   |_,_=>none
def QS (an:List JL) (f:Func):Option Ig:=
 match f.body with
 |some b=>match EL P f.ntmps an b,F6 P f.ntmps f.results.toList with
  |some c,some rs=>if f.params.size+f.nfree≤f.ntmps then some ⟨f.params.size+f.nfree,c,rs⟩else none
  |_,_=>none
 |none=>none
def Jq:List AX→Nat→List (Nat×Js)
 |[],_=>[]
 |o::os,i=>match o.op with
  | .call .pure _ _=>Jq os (i+1)
  | .call m _ _=>(i,.mode m)::Jq os (i+1)
  | .Ia .pure _ _=>Jq os (i+1)
  | .Ia m _ _=>(i,.mode m)::Jq os (i+1)
  | .JH _=>(i,.own)::Jq os (i+1)
  | .lit true _ _ _ _=>(i,.own)::Jq os (i+1)
  | .KD off e2 _ _=>(i,.AiL off e2)::Jq os (i+1)
  |_=>Jq os (i+1)
def AeN (i:Nat) (l:List Nat):List JL→List JL
 |[]=>[]
 |a::r=>if a.id=i then{a with hdr:=l}::r else a::AeN i l r
def anZ:Code→Bf→List JL
 | .region id _ _,.region h KO ops live tr=>[{id:=id,head:=h,KO:=KO,live:=live,trunc:=tr,ops:=Jq ops 0}]
 | .region id _ _,.par m _ KO ops live tr=>[{id:=id,head:=some m,KO:=KO,live:=live,trunc:=tr,ops:=Jq ops 0,par:=true}]
 | .region id _ _,.mix m W pc KO ops live tr=>[{id:=id,wob:=W,pc:=pc,head:=some m,KO:=KO,live:=live,trunc:=tr,ops:=Jq ops 0,mix:=true}]
 | .seq a b,.seq x y=>anZ a x++anZ b y
 | .cond _ a b,.cond _ x y=>anZ a x++anZ b y
 | .block _ a,.block _ x=>anZ a x
 | .loop a,.loop live x=>AeN (JC a) live (anZ a x)
 |_,_=>[]
def anF (f:Func) (a:Ig):List JL:=match f.body with
 |some b=>anZ b a.body
 |none=>[]
def cok (f:Func) (a:Ig):Option Ig:=QS P (anF f a) f
end AI
end Go.Proofs.YtjijnamhalgamaaGreatDoor
