/- From the model's code to the abstract interpreter's: the types' tables are looked up once, the places of variables are marked as told. -/
import Derived.Test.YthnehejdkajjhaaGreatDoorBCore
namespace Go.Proofs.YthnehejdkajjhaaGreatDoor
namespace AI
inductive KL where
 |own
 |Ag3 (off es:Nat)
 |mode (m:Mode)
 deriving Inhabited
structure LH where
 id:Nat
 head:Option Nat:=none
 Nr:List Nat:=[]
 live:List Nat:=[]
 trunc:Option Nat:=none
 ops:List (Nat×KL):=[]
 hdr:List Nat:=[]
 par:Bool:=false
 mix:Bool:=false
 wob:List Nat:=[]
 pc:List Nat:=[]
 deriving Inhabited
def AdN:List (Nat×KL)→Nat→Option KL
 |[],_=>none
 |(j,a)::r,i=>if i=j then some a else AdN r i
def Gm:List LH→Nat→LH
 |[],i=>{id:=i}
 |a::r,i=>if a.id=i then a else Gm r i
def Rz:Value→Option AV
 | .bool b=>some (.bool b)
 | .int k n=>some (.int k n)
 | .string s=>some (.str s.data.toList)
 | .slice none 0 0=>some (.sl false [])
 | .pointer none=>some .LG
 | .map none=>some .En
 | .nilFunc=>some .Hz
 | .nilIface=>some .Jp
 | .func (.func f) fs cs=>if fs.size=0∧cs.size=0 then some (.fn f [])else none
 |_=>none
def ofValues:List Value→Option (List AV)
 |[]=>some []
 |v::vs=>match Rz v,ofValues vs with
  |some a,some b=>some (a::b)
  |_,_=>none
def ofValue:Value→Option AV
 | .agg cs=>(ofValues cs.toList).map .agg
 |v=>Rz v
def Bc:Operand→Option AO
 | .tmp t=>some (.tmp t)
 | .const v=>(ofValue v).map .cst
 | .func f=>some (.cst (.fn f []))
 | .global _=>none
def CU:List Operand→Option (List AO)
 |[]=>some []
 |v::vs=>match Bc v,CU vs with
  |some a,some b=>some (a::b)
  |_,_=>none
variable (P:Program)
def ZB (t:TypeId):Bool:=match P.underlying t with
 |some (.struct _)|some (.array _ _)=>true
 |_=>false
def CB (t:TypeId):Option Nat:=match P.info? t with
 |some i=>if 0<i.size then some i.size else none
 |none=>none
def szT (t:TypeId):Option (Option Nat):=match P.underlying t,CB P t with
 |some (.struct _),some n=>some (some n)
 |some (.array _ _),some n=>some (some n)
 |some _,some 1=>some none
 |_,_=>none
def Iu (t:TypeId):Option (Nat×AV):=match P.info? t,CB P t with
 |some i,some n=>match i.zero with
  |some z=>match ofValue z with
   |some v=>if v.cells.length=n then some (n,v)else none
   |none=>none
  |none=>none
 |_,_=>none
def JI (t:TypeId):Option PL:=match P.underlying t with
 |some .bool=>some .bool
 |some (.int _)=>some .int
 |some .string=>some .str
 |_=>none
def Yn:List Field→Nat→Option (List PL)
 |[],_=>some []
 |f::fs,i=>match JI P f.type,Yn fs (i+1)with
  | some k, some ks => if f.offset = i ∧ (f.name == "_") = false ∧ CB P f.type = some 1 then some (k :: ks) else none
  |_,_=>none
def eqT (t:TypeId):PL:=match P.underlying t with
 |some .bool=>.bool
 |some (.int _)=>.int
 |some .string=>.str
 |some (.slice _)=>.slice
 |some (.pointer _)=>.ptr
 |some (.func _ _ _)=>.func
 |some (.map _ _)=>.map
 |some (.struct fs)=>match Yn P fs.toList 0 with
  |some ks=>if P.eqGuardType P.depth t=false∧P.stoodInHeld t=false∧CB P t=some ks.length then .flat ks else .other
  |none=>.other
 |_=>.other
def QA (fs:List Field):List (Nat×Operand)→Option (List (Nat×Nat×AO))
 |[]=>some []
 |(i,x)::ps=>match nth fs i,Bc x,QA fs ps with
  |some f,some a,some r=>match CB P f.type with
   |some n=>some ((f.offset,n,a)::r)
   |none=>none
  |_,_,_=>none
def Kw (es:Nat):List (Nat×Operand)→Option (List (Nat×Nat×AO))
 |[]=>some []
 |(i,x)::ps=>match Bc x,Kw es ps with
  |some a,some r=>some ((i*es,es,a)::r)
  |_,_=>none
def MF:List (Nat×Operand)→Option (List (Nat×AO))
 |[]=>some []
 |(i,x)::ps=>match Bc x,MF ps with
  |some a,some r=>some ((i,a)::r)
  |_,_=>none
def Hu:Option Operand→Option (Option AO)
 |none=>some none
 |some x=>(Bc x).map some
def isZero:Option Operand→Bool
 |some (.const (.int _ 0))=>true
 |_=>false
def Abc (m:Mode) (c:Call):Option Dp:=
 match c.callee,CU c.args.toList with
 | .value (.func f),some args=>some (.call m f args)
 | .value (.tmp t),some args=>some (.Jo m (.tmp t) args)
 | .builtin .len,some [x]=>match nth c.argTypes.toList 0 with
   |some t=>match P.underlying t with
    |some .string=>some (.len .str x)
    |some (.slice _)=>some (.len .slice x)
    |some (.map _ _)=>some (.len .map x)
    |_=>none
   |none=>none
 | .builtin .min,some [x,y]=>some (.min x y)
 | .builtin .max,some [x,y]=>some (.max x y)
 | .builtin .append,some [x,y]=>match c.argTypes.toList with
   |[t,t']=>match P.underlying t with
    |some (.slice e)=>match Iu P e,P.info? e with
     |some (es,_),some i=>if 0<i.bytes∧t=t' then some (.append es i.bytes x y)else none
     |_,_=>none
    |_=>none
   |_=>none
 | .builtin .clear,some [x]=>match c.argTypes.toList with
   |[t]=>match P.underlying t with
    |some (.slice e)=>match Iu P e with
     |some (es,_)=>some (.clear es x)
     |none=>none
    |_=>none
   |_=>none
 | .builtin .delete,some [m,k]=>match c.argTypes.toList with
   |t::_=>match P.underlying t with
    |some (.map kt _)=>(JI P kt).map fun l=>.delete l m k
    |_=>none
   |_=>none
 | .builtin .cap,some [x]=>match nth c.argTypes.toList 0 with
   |some t=>match P.underlying t with
    |some (.slice _)=>some (.len .func x)
    |_=>none
   |none=>none
 |_,_=>none
def An8:Option KL→Mode
 |some (.mode m)=>m
 |_=>.pure
def TL (o:Oper) (ann:Option KL):Option Dp:=
 match o.op with
 | .move x=>(Bc x).map .mov
 | .assign x=>match ann with
   |some .own=>match x,P.underlying o.type with
    | .const (.slice none 0 0),some (.slice e)=>(CB P e).map .LD
    |_,_=>none
   |_=>(Bc x).map .mov
 | .pick c a b=>match Bc c,Bc a,Bc b with
   |some c,some a,some b=>some (.pick c a b)
   |_,_,_=>none
 | .alloc t=>match ann with
   |some (.Ag3 off e2)=>match Iu P t with
    |some (n,.agg cs)=>some (.Nw off e2 n cs)
    |_=>none
   |_=>(Iu P t).map fun(n,z)=>.alloc n z
 | .box t x=>match CB P t,Bc x with
   |some n,some x=>some (.box n x)
   |_,_=>none
 | .build t parts=>match Iu P t with
   |some (_,.agg z)=>match P.underlying t with
    |some (.struct fs)=>if fs.toList.all (fun f=>(CB P f.type).isSome)then(QA P fs.toList parts.toList).map (.build z)else none
    |some (.array _ e)=>match CB P e with
     |some es=>(Kw es parts.toList).map (.build z)
     |none=>none
    |_=>none
   |_=>none
 | .buildSlice t len parts=>match P.underlying t with
   |some (.slice e)=>match Iu P e,MF parts.toList with
    |some (es,z),some ps=>if len*es≤16777216 then some (.lit (match ann with|some .own=>true|_=>false) es z len ps)else none
    |_,_=>none
   |_=>none
 | .load t a=>match szT P t,Bc a with
   |some sz,some a=>some (.load sz a)
   |_,_=>none
 | .store t a x=>match CB P t,Bc a,Bc x with
   |some n,some a,some x=>some (.store n a x)
   |_,_,_=>none
 | .nilCheck x=>(Bc x).map .TQ
 | .binOp op t x y _=>match Bc x,Bc y with
   |some x,some y=>some (.bin op (eqT P t) x y)
   |_,_=>none
 | .unOp op _ x=>(Bc x).map (.un op)
 | .convert src dst x=>match P.underlying src,P.underlying dst,Bc x with
   |some (.int _),some (.int k),some x=>some (.conv k x)
   |some .string,some .string,some x=>some (.convs x)
   |_,_,_=>none
 | .makeInterface t x=>match P.underlying t with
   |some (.interface _)=>none
   |some _=>(Bc x).map (.AkC t)
   |none=>none
 | .makeFunc (.func f) fs caps=>if fs.size=0 then(CU caps.toList).map (.Ag4 f)else none
 | .makeMap _ none=>some .Q9
 | .makeSlice t l c=>match P.underlying t with
   |some (.slice e)=>match Iu P e,P.info? e,Bc l,Bc c with
    |some (es,z),some i,some l,some c=>if 0<i.bytes then some (.JR es i.bytes z l c)else none
    |_,_,_,_=>none
   |_=>none
 | .slice t x lo hi mx=>match P.underlying t,Bc x,mx with
   |some (.slice e),some x,none=>match CB P e,Hu lo,Hu hi with
    |some es,some lo,some hi=>some (.slice es x lo hi)
    |_,_,_=>none
   |some .string,some x,none=>match Hu lo,Hu hi with
    |some lo,some hi=>some (.OH x lo hi)
    |_,_=>none
   |some (.slice e),some x,some mx=>if(lo.isNone||isZero lo)&&isZero hi&&isZero (some mx)&&(CB P e).isSome then some (.WH x)else none
   |_,_,_=>none
 | .fieldAddr t x f=>match P.underlying t,Bc x with
   |some (.struct fs),some x=>match nth fs.toList f with
    |some fd=>(CB P fd.type).map fun _=>.WI fd.offset x
    |none=>none
   |_,_=>none
 | .field t x f=>match P.underlying t,Bc x with
   |some (.struct fs),some x=>match nth fs.toList f with
    |some fd=>(szT P fd.type).map fun sz=>.field fd.offset sz x
    |none=>none
   |_,_=>none
 | .indexAddr t x i=>match P.underlying t,Bc x,Bc i with
   |some (.slice e),some x,some i=>(CB P e).map fun es=>.WJ es x i
   |some (.array n e),some x,some i=>(CB P e).map fun es=>.Abd es n x i
   |_,_,_=>none
 | .index t x i=>match P.underlying t,Bc x,Bc i with
   |some .string,some x,some i=>some (.AcB x i)
   |some (.array n e),some x,some i=>match CB P e,szT P e with
    |some es,some sz=>some (.Ag5 es n sz x i)
    |_,_=>none
   |_,_,_=>none
 | .lookup t m k Vb=>match P.underlying t,Bc m,Bc k with
   |some (.map kt e),some m,some k=>match JI P kt,Iu P e with
    |some l,some (_,z)=>some (.lookup l z Vb m k)
    |_,_=>none
   |_,_,_=>none
 | .mapUpdate t m k v| .insert t m k v=>match P.underlying t,Bc m,Bc k,Bc v with
   |some (.map kt _),some m,some k,some v=>(JI P kt).map fun l=>.mapset l m k v
   |_,_,_,_=>none
 | .extract x i=>(Bc x).map fun x=>.ext x i
 | .panic x=>(Bc x).map .panic
 | .call c=>Abc P (An8 ann) c
 |_=>none
def J4 (ops:Array Oper) (n:Nat):Option (Nat×Bool)→Option (Option (Nat×Bool))
 |none=>some none
 |some (j,b)=>match(ops[j]?).bind (·.dst)with
  |some t=>if t<n then some (some (t,b))else none
  |none=>none
def Ag6 (n:Nat):Option Nat→Bool
 |some d=>decide (d<n)
 |none=>true
def Hl (ops:Array Oper) (n:Nat) (an:List (Nat×KL)):List Oper→Nat→Option (List Bj)
 |[],_=>some []
 |o::os,i=>match TL P o (AdN an i),J4 ops n o.guard,Hl ops n an os (i+1)with
  |some ao,some g,some r=>if Ag6 n o.dst then some (⟨o.dst,ao,g⟩::r)else none
  |_,_,_=>none
def AO.slots:AO→List Nat
 | .tmp t=>[t]
 | .cst _=>[]
def slotsOf (o:Bj):List Nat:=
 o.dst.toList++o.op.DJ.flatMap AO.slots++(match o.guard with|some (t,_)=>[t]|none=>[])
def ZC (ops:Array Oper) (DJ:List Bj) (m:Nat):Bool:=
 let b:=Region.before ops
 (List.range ops.size).all fun j=>match ops[j]?,DJ[j]? with
    |some o,some ao=>
     (o.after.toList.all fun e=>!Region.binds .any e||decide (e.on<j))&&
     ((List.range ops.size).all fun i=>i==j||match(ops[i]?).bind (·.dst)with
       |some t=>!(slotsOf ao).contains t||(if i<j then(b.getD j 0).testBit i else(b.getD i 0).testBit j)
       |none=>true)&&
     (decide (j<m)||(List.range j).all fun i=>(b.getD j 0).testBit i)
    |_,_=>false
def He (m:Nat) (os:List Bj):Bool:=(os.take m).all fun o=>o.op.G8
def Nb (o:Bj):Nat:=match o.op.cls with
 |some .e=>0
 |some .r=>1
 |some .w=>2
 |some .a=>3
 |none=>4
def AkD (m:Nat) (os:List Bj):Bool:=(os.take m).all fun o=>Nb o != 4
def Vd (ops:Array Oper) (os:List Bj) (m:Nat):List (Nat×Nat):=
 let b:=Region.before ops
 (List.range m).flatMap fun j=>((List.range j).filter fun i=>match os[i]?,os[j]? with
    |some oi,some oj=>!(b.getD j 0).testBit i&&Nb oi != 0&&Nb oj != 0&&(Nb oi != 1||Nb oj != 1)
    |_,_=>false).map fun i=>(i,j)
def KW:Code→Nat
 | .region id _ _=>id
 | .seq a _=>KW a
 | .cond _ a _=>KW a
 | .block _ a=>KW a
 | .loop a=>KW a
 |_=>0
def AaT (ops:Array Oper) (DJ:List Bj) (m:Nat) (W pc:List Nat):Bool:=
 let b:=Region.before ops
 (match pc with
 |p::E=>(E.all fun i=>!EG i W)&&(List.range ops.size).all fun j=>decide (j≤p)||EG j E||(b.getD j 0).testBit p
 |[]=>true)&&
 (List.range ops.size).all fun j=>match ops[j]?,DJ[j]? with
    |some o,some ao=>
     (o.after.toList.all fun e=>!Region.binds .any e||decide (e.on<j))&&
     ((List.range ops.size).all fun i=>i==j||match(ops[i]?).bind (·.dst)with
       |some t=>!(slotsOf ao).contains t||(if i<j then(b.getD j 0).testBit i else(b.getD i 0).testBit j)
       |none=>true)&&
     (decide (j<m)||flt ao||EG j W||(List.range j).all fun i=>(match DJ[i]? with|some ai=>flt ai|none=>false)||EG i W||(b.getD j 0).testBit i)
    |_,_=>false
def TF:AY:=.cond (.cst (.int .i64 0)) .skip .skip
def Gg (n:Nat) (an:List LH):Code→Option AY
 | .skip=>some .skip
 | .region id ops draw=>
   let a:=Gm an id
   match Hl P ops n a.ops ops.toList 0 with
   |some os=>if draw then
     let m:=a.head.getD os.length
     if a.par then
          if ZC ops os m&&AkD m os&&decide (m≤ops.size)then some (.par m (Vd ops os m) a.Nr os a.live a.trunc)else none
     else if a.mix then
          if AaT ops os m a.wob a.pc&&He m os then some (.mix m a.wob a.pc a.Nr os a.live a.trunc)else none
     else if ZC ops os m&&He m os then some (.region (some m) a.Nr os a.live a.trunc)else none
    else some (.region none a.Nr os a.live a.trunc)
   |none=>some TF
 | .seq x y=>match Gg n an x,Gg n an y with
   |some a,some b=>some (.seq a b)
   |_,_=>none
 | .cond c x y=>match Bc c,Gg n an x,Gg n an y with
   |some c,some a,some b=>some (.cond c a b)
   |_,_,_=>none
 | .block id x=>(Gg n an x).map (.block id)
 | .loop x=>(Gg n an x).map (.loop (Gm an (KW x)).hdr)
 | .exit id=>some (.exit id)
 | .ret=>some .ret
 |_=>some TF
def Ho (n:Nat):List ResultVar→Option (List Zr)
 |[]=>some []
 | .tmp t::rs=>if t<n then(Ho n rs).map (.tmp t::·)else none
 | .cell a t::rs=>match szT P t,Ho n rs with
   |some sz,some r=>some (.cell a sz::r)
   |_,_=>none
def Us (an:List LH) (f:Func):Option Jr:=
 match f.body with
 |some b=>match Gg P f.ntmps an b,Ho P f.ntmps f.results.toList with
  |some c,some rs=>if f.params.size+f.nfree≤f.ntmps then some ⟨f.params.size+f.nfree,c,rs⟩else none
  |_,_=>none
 |none=>none
def Ky:List Bj→Nat→List (Nat×KL)
 |[],_=>[]
 |o::os,i=>match o.op with
  | .call .pure _ _=>Ky os (i+1)
  | .call m _ _=>(i,.mode m)::Ky os (i+1)
  | .Jo .pure _ _=>Ky os (i+1)
  | .Jo m _ _=>(i,.mode m)::Ky os (i+1)
  | .LD _=>(i,.own)::Ky os (i+1)
  | .lit true _ _ _ _=>(i,.own)::Ky os (i+1)
  | .Nw off e2 _ _=>(i,.Ag3 off e2)::Ky os (i+1)
  |_=>Ky os (i+1)
def Ag7 (i:Nat) (l:List Nat):List LH→List LH
 |[]=>[]
 |a::r=>if a.id=i then{a with hdr:=l}::r else a::Ag7 i l r
def anZ:Code→AY→List LH
 | .region id _ _,.region h Nr ops live tr=>[{id:=id,head:=h,Nr:=Nr,live:=live,trunc:=tr,ops:=Ky ops 0}]
 | .region id _ _,.par m _ Nr ops live tr=>[{id:=id,head:=some m,Nr:=Nr,live:=live,trunc:=tr,ops:=Ky ops 0,par:=true}]
 | .region id _ _,.mix m W pc Nr ops live tr=>[{id:=id,wob:=W,pc:=pc,head:=some m,Nr:=Nr,live:=live,trunc:=tr,ops:=Ky ops 0,mix:=true}]
 | .seq a b,.seq x y=>anZ a x++anZ b y
 | .cond _ a b,.cond _ x y=>anZ a x++anZ b y
 | .block _ a,.block _ x=>anZ a x
 | .loop a,.loop live x=>Ag7 (KW a) live (anZ a x)
 |_,_=>[]
def anF (f:Func) (a:Jr):List LH:=match f.body with
 |some b=>anZ b a.body
 |none=>[]
def cok (f:Func) (a:Jr):Option Jr:=Us P (anF f a) f
end AI
end Go.Proofs.YthnehejdkajjhaaGreatDoor
