/- From the model's code to the abstract interpreter's: the types' tables are looked up once, the places of variables are marked as told. -/
import Derived.Test.YtceiccjppfapjaaGreatDoorBCore
namespace Go.Proofs.YtceiccjppfapjaaGreatDoor
namespace AI
inductive J5 where
 |own
 |AfA (off es:Nat)
 |mode (m:Mode)
 deriving Inhabited
structure KQ where
 id:Nat
 head:Option Nat:=none
 MO:List Nat:=[]
 live:List Nat:=[]
 trunc:Option Nat:=none
 ops:List (Nat×J5):=[]
 hdr:List Nat:=[]
 par:Bool:=false
 mix:Bool:=false
 wob:List Nat:=[]
 pc:List Nat:=[]
 deriving Inhabited
def Adg:List (Nat×J5)→Nat→Option J5
 |[],_=>none
 |(j,a)::r,i=>if i=j then some a else Adg r i
def Gg:List KQ→Nat→KQ
 |[],i=>{id:=i}
 |a::r,i=>if a.id=i then a else Gg r i
def QW:Value→Option AV
 | .bool b=>some (.bool b)
 | .int k n=>some (.int k n)
 | .string s=>some (.str s.data.toList)
 | .slice none 0 0=>some (.sl false [])
 | .pointer none=>some .KP
 | .map none=>some .DY
 | .nilFunc=>some .Hw
 | .nilIface=>some .Jb
 | .func (.func f) fs cs=>if fs.size=0∧cs.size=0 then some (.fn f [])else none
 |_=>none
def ofValues:List Value→Option (List AV)
 |[]=>some []
 |v::vs=>match QW v,ofValues vs with
  |some a,some b=>some (a::b)
  |_,_=>none
def ofValue:Value→Option AV
 | .agg cs=>(ofValues cs.toList).map .agg
 |v=>QW v
def AU:Operand→Option AO
 | .tmp t=>some (.tmp t)
 | .const v=>(ofValue v).map .cst
 | .func f=>some (.cst (.fn f []))
 | .global _=>none
def CG:List Operand→Option (List AO)
 |[]=>some []
 |v::vs=>match AU v,CG vs with
  |some a,some b=>some (a::b)
  |_,_=>none
variable (P:Program)
def Y7 (t:TypeId):Bool:=match P.underlying t with
 |some (.struct _)|some (.array _ _)=>true
 |_=>false
def Cb (t:TypeId):Option Nat:=match P.info? t with
 |some i=>if 0<i.size then some i.size else none
 |none=>none
def szT (t:TypeId):Option (Option Nat):=match P.underlying t,Cb P t with
 |some (.struct _),some n=>some (some n)
 |some (.array _ _),some n=>some (some n)
 |some _,some 1=>some none
 |_,_=>none
def Io (t:TypeId):Option (Nat×AV):=match P.info? t,Cb P t with
 |some i,some n=>match i.zero with
  |some z=>match ofValue z with
   |some v=>if v.cells.length=n then some (n,v)else none
   |none=>none
  |none=>none
 |_,_=>none
def Js (t:TypeId):Option OQ:=match P.underlying t with
 |some .bool=>some .bool
 |some (.int _)=>some .int
 |some .string=>some .str
 |_=>none
def X8:List Field→Nat→Option (List OQ)
 |[],_=>some []
 |f::fs,i=>match Js P f.type,X8 fs (i+1)with
  | some k, some ks => if f.offset = i ∧ (f.name == "_") = false ∧ Cb P f.type = some 1 then some (k :: ks) else none
  |_,_=>none
def eqT (t:TypeId):OQ:=match P.underlying t with
 |some .bool=>.bool
 |some (.int _)=>.int
 |some .string=>.str
 |some (.slice _)=>.slice
 |some (.pointer _)=>.ptr
 |some (.func _ _ _)=>.func
 |some (.map _ _)=>.map
 |some (.struct fs)=>match X8 P fs.toList 0 with
  |some ks=>if P.eqGuardType P.depth t=false∧P.stoodInHeld t=false∧Cb P t=some ks.length then .flat ks else .other
  |none=>.other
 |_=>.other
def Qb (fs:List Field):List (Nat×Operand)→Option (List (Nat×Nat×AO))
 |[]=>some []
 |(i,x)::ps=>match nth fs i,AU x,Qb fs ps with
  |some f,some a,some r=>match Cb P f.type with
   |some n=>some ((f.offset,n,a)::r)
   |none=>none
  |_,_,_=>none
def JV (es:Nat):List (Nat×Operand)→Option (List (Nat×Nat×AO))
 |[]=>some []
 |(i,x)::ps=>match AU x,JV es ps with
  |some a,some r=>some ((i*es,es,a)::r)
  |_,_=>none
def LH:List (Nat×Operand)→Option (List (Nat×AO))
 |[]=>some []
 |(i,x)::ps=>match AU x,LH ps with
  |some a,some r=>some ((i,a)::r)
  |_,_=>none
def Hq:Option Operand→Option (Option AO)
 |none=>some none
 |some x=>(AU x).map some
def isZero:Option Operand→Bool
 |some (.const (.int _ 0))=>true
 |_=>false
def AaO (m:Mode) (c:Call):Option CZ:=
 match c.callee,CG c.args.toList with
 | .value (.func f),some args=>some (.call m f args)
 | .value (.tmp t),some args=>some (.Ja m (.tmp t) args)
 | .builtin .len,some [x]=>match nth c.argTypes.toList 0 with
   |some t=>match P.underlying t with
    |some .string=>some (.len .str x)
    |some (.slice _)=>some (.len .slice x)
    |some (.map _ _)=>some (.len .map x)
    |_=>none
   |none=>none
 | .builtin .min,some [x,y]=>some (.min x y)
 | .builtin .max,some [x,y]=>some (.max x y)
 | .builtin .append,some [x,y]=>match c.argTypes.toList with
   |[t,t']=>match P.underlying t with
    |some (.slice e)=>match Io P e,P.info? e with
     |some (es,_),some i=>if 0<i.bytes∧t=t' then some (.append es i.bytes x y)else none
     |_,_=>none
    |_=>none
   |_=>none
 | .builtin .clear,some [x]=>match c.argTypes.toList with
   |[t]=>match P.underlying t with
    |some (.slice e)=>match Io P e with
     |some (es,_)=>some (.clear es x)
     |none=>none
    |_=>none
   |_=>none
 | .builtin .delete,some [m,k]=>match c.argTypes.toList with
   |t::_=>match P.underlying t with
    |some (.map kt _)=>(Js P kt).map fun l=>.delete l m k
    |_=>none
   |_=>none
 | .builtin .cap,some [x]=>match nth c.argTypes.toList 0 with
   |some t=>match P.underlying t with
    |some (.slice _)=>some (.len .func x)
    |_=>none
   |none=>none
 |_,_=>none
def AmM:Option J5→Mode
 |some (.mode m)=>m
 |_=>.pure
def Sz (o:Oper) (ann:Option J5):Option CZ:=
 match o.op with
 | .move x=>(AU x).map .mov
 | .assign x=>match ann with
   |some .own=>match x,P.underlying o.type with
    | .const (.slice none 0 0),some (.slice e)=>(Cb P e).map .KO
    |_,_=>none
   |_=>(AU x).map .mov
 | .pick c a b=>match AU c,AU a,AU b with
   |some c,some a,some b=>some (.pick c a b)
   |_,_,_=>none
 | .alloc t=>match ann with
   |some (.AfA off e2)=>match Io P t with
    |some (n,.agg cs)=>some (.MR off e2 n cs)
    |_=>none
   |_=>(Io P t).map fun(n,z)=>.alloc n z
 | .box t x=>match Cb P t,AU x with
   |some n,some x=>some (.box n x)
   |_,_=>none
 | .build t parts=>match Io P t with
   |some (_,.agg z)=>match P.underlying t with
    |some (.struct fs)=>if fs.toList.all (fun f=>(Cb P f.type).isSome)then(Qb P fs.toList parts.toList).map (.build z)else none
    |some (.array _ e)=>match Cb P e with
     |some es=>(JV es parts.toList).map (.build z)
     |none=>none
    |_=>none
   |_=>none
 | .buildSlice t len parts=>match P.underlying t with
   |some (.slice e)=>match Io P e,LH parts.toList with
    |some (es,z),some ps=>if len*es≤16777216 then some (.lit (match ann with|some .own=>true|_=>false) es z len ps)else none
    |_,_=>none
   |_=>none
 | .load t a=>match szT P t,AU a with
   |some sz,some a=>some (.load sz a)
   |_,_=>none
 | .store t a x=>match Cb P t,AU a,AU x with
   |some n,some a,some x=>some (.store n a x)
   |_,_,_=>none
 | .nilCheck x=>(AU x).map .SB
 | .binOp op t x y _=>match AU x,AU y with
   |some x,some y=>some (.bin op (eqT P t) x y)
   |_,_=>none
 | .unOp op _ x=>(AU x).map (.un op)
 | .convert src dst x=>match P.underlying src,P.underlying dst,AU x with
   |some (.int _),some (.int k),some x=>some (.conv k x)
   |some .string,some .string,some x=>some (.convs x)
   |_,_,_=>none
 | .makeInterface t x=>match P.underlying t with
   |some (.interface _)=>none
   |some _=>(AU x).map (.AjJ t)
   |none=>none
 | .makeFunc (.func f) fs caps=>if fs.size=0 then(CG caps.toList).map (.Ahg f)else none
 | .makeMap _ none=>some .Qv
 | .makeSlice t l c=>match P.underlying t with
   |some (.slice e)=>match Io P e,P.info? e,AU l,AU c with
    |some (es,z),some i,some l,some c=>if 0<i.bytes then some (.Jy es i.bytes z l c)else none
    |_,_,_,_=>none
   |_=>none
 | .slice t x lo hi mx=>match P.underlying t,AU x,mx with
   |some (.slice e),some x,none=>match Cb P e,Hq lo,Hq hi with
    |some es,some lo,some hi=>some (.slice es x lo hi)
    |_,_,_=>none
   |some .string,some x,none=>match Hq lo,Hq hi with
    |some lo,some hi=>some (.Oi x lo hi)
    |_,_=>none
   |some (.slice e),some x,some mx=>if(lo.isNone||isZero lo)&&isZero hi&&isZero (some mx)&&(Cb P e).isSome then some (.V5 x)else none
   |_,_,_=>none
 | .fieldAddr t x f=>match P.underlying t,AU x with
   |some (.struct fs),some x=>match nth fs.toList f with
    |some fd=>(Cb P fd.type).map fun _=>.VJ fd.offset x
    |none=>none
   |_,_=>none
 | .field t x f=>match P.underlying t,AU x with
   |some (.struct fs),some x=>match nth fs.toList f with
    |some fd=>(szT P fd.type).map fun sz=>.field fd.offset sz x
    |none=>none
   |_,_=>none
 | .indexAddr t x i=>match P.underlying t,AU x,AU i with
   |some (.slice e),some x,some i=>(Cb P e).map fun es=>.VK es x i
   |some (.array n e),some x,some i=>(Cb P e).map fun es=>.AaP es n x i
   |_,_,_=>none
 | .index t x i=>match P.underlying t,AU x,AU i with
   |some .string,some x,some i=>some (.AbW x i)
   |some (.array n e),some x,some i=>match Cb P e,szT P e with
    |some es,some sz=>some (.Ahh es n sz x i)
    |_,_=>none
   |_,_,_=>none
 | .lookup t m k Uw=>match P.underlying t,AU m,AU k with
   |some (.map kt e),some m,some k=>match Js P kt,Io P e with
    |some l,some (_,z)=>some (.lookup l z Uw m k)
    |_,_=>none
   |_,_,_=>none
 | .mapUpdate t m k v| .insert t m k v=>match P.underlying t,AU m,AU k,AU v with
   |some (.map kt _),some m,some k,some v=>(Js P kt).map fun l=>.mapset l m k v
   |_,_,_,_=>none
 | .extract x i=>(AU x).map fun x=>.ext x i
 | .panic x=>(AU x).map .panic
 | .call c=>AaO P (AmM ann) c
 |_=>none
def JH (ops:Array Oper) (n:Nat):Option (Nat×Bool)→Option (Option (Nat×Bool))
 |none=>some none
 |some (j,b)=>match(ops[j]?).bind (·.dst)with
  |some t=>if t<n then some (some (t,b))else none
  |none=>none
def Ahi (n:Nat):Option Nat→Bool
 |some d=>decide (d<n)
 |none=>true
def G8 (ops:Array Oper) (n:Nat) (an:List (Nat×J5)):List Oper→Nat→Option (List Ba)
 |[],_=>some []
 |o::os,i=>match Sz P o (Adg an i),JH ops n o.guard,G8 ops n an os (i+1)with
  |some ao,some g,some r=>if Ahi n o.dst then some (⟨o.dst,ao,g⟩::r)else none
  |_,_,_=>none
def AO.slots:AO→List Nat
 | .tmp t=>[t]
 | .cst _=>[]
def slotsOf (o:Ba):List Nat:=
 o.dst.toList++o.op.Dw.flatMap AO.slots++(match o.guard with|some (t,_)=>[t]|none=>[])
def Y8 (ops:Array Oper) (Dw:List Ba) (m:Nat):Bool:=
 let b:=Region.before ops
 (List.range ops.size).all fun j=>match ops[j]?,Dw[j]? with
    |some o,some ao=>
     (o.after.toList.all fun e=>!Region.binds .any e||decide (e.on<j))&&
     ((List.range ops.size).all fun i=>i==j||match(ops[i]?).bind (·.dst)with
       |some t=>!(slotsOf ao).contains t||(if i<j then(b.getD j 0).testBit i else(b.getD i 0).testBit j)
       |none=>true)&&
     (decide (j<m)||(List.range j).all fun i=>(b.getD j 0).testBit i)
    |_,_=>false
def G6 (m:Nat) (os:List Ba):Bool:=(os.take m).all fun o=>o.op.GK
def MF (o:Ba):Nat:=match o.op.cls with
 |some .e=>0
 |some .r=>1
 |some .w=>2
 |some .a=>3
 |none=>4
def AjK (m:Nat) (os:List Ba):Bool:=(os.take m).all fun o=>MF o != 4
def Ux (ops:Array Oper) (os:List Ba) (m:Nat):List (Nat×Nat):=
 let b:=Region.before ops
 (List.range m).flatMap fun j=>((List.range j).filter fun i=>match os[i]?,os[j]? with
    |some oi,some oj=>!(b.getD j 0).testBit i&&MF oi != 0&&MF oj != 0&&(MF oi != 1||MF oj != 1)
    |_,_=>false).map fun i=>(i,j)
def Ky:Code→Nat
 | .region id _ _=>id
 | .seq a _=>Ky a
 | .cond _ a _=>Ky a
 | .block _ a=>Ky a
 | .loop a=>Ky a
 |_=>0
def Aah (ops:Array Oper) (Dw:List Ba) (m:Nat) (W pc:List Nat):Bool:=
 let b:=Region.before ops
 (match pc with
 |p::E=>(E.all fun i=>!Ef i W)&&(List.range ops.size).all fun j=>decide (j≤p)||Ef j E||(b.getD j 0).testBit p
 |[]=>true)&&
 (List.range ops.size).all fun j=>match ops[j]?,Dw[j]? with
    |some o,some ao=>
     (o.after.toList.all fun e=>!Region.binds .any e||decide (e.on<j))&&
     ((List.range ops.size).all fun i=>i==j||match(ops[i]?).bind (·.dst)with
       |some t=>!(slotsOf ao).contains t||(if i<j then(b.getD j 0).testBit i else(b.getD i 0).testBit j)
       |none=>true)&&
     (decide (j<m)||flt ao||Ef j W||(List.range j).all fun i=>(match Dw[i]? with|some ai=>flt ai|none=>false)||Ef i W||(b.getD j 0).testBit i)
    |_,_=>false
def Sj:AZ:=.cond (.cst (.int .i64 0)) .skip .skip
def FY (n:Nat) (an:List KQ):Code→Option AZ
 | .skip=>some .skip
 | .region id ops draw=>
   let a:=Gg an id
   match G8 P ops n a.ops ops.toList 0 with
   |some os=>if draw then
     let m:=a.head.getD os.length
     if a.par then
          if Y8 ops os m&&AjK m os&&decide (m≤ops.size)then some (.par m (Ux ops os m) a.MO os a.live a.trunc)else none
     else if a.mix then
          if Aah ops os m a.wob a.pc&&G6 m os then some (.mix m a.wob a.pc a.MO os a.live a.trunc)else none
     else if Y8 ops os m&&G6 m os then some (.region (some m) a.MO os a.live a.trunc)else none
    else some (.region none a.MO os a.live a.trunc)
   |none=>some Sj
 | .seq x y=>match FY n an x,FY n an y with
   |some a,some b=>some (.seq a b)
   |_,_=>none
 | .cond c x y=>match AU c,FY n an x,FY n an y with
   |some c,some a,some b=>some (.cond c a b)
   |_,_,_=>none
 | .block id x=>(FY n an x).map (.block id)
 | .loop x=>(FY n an x).map (.loop (Gg an (Ky x)).hdr)
 | .exit id=>some (.exit id)
 | .ret=>some .ret
 |_=>some Sj
def G9 (n:Nat):List ResultVar→Option (List YQ)
 |[]=>some []
 | .tmp t::rs=>if t<n then(G9 n rs).map (.tmp t::·)else none
 | .cell a t::rs=>match szT P t,G9 n rs with
   |some sz,some r=>some (.cell a sz::r)
   |_,_=>none
def TJ (an:List KQ) (f:Func):Option Jd:=
 match f.body with
 |some b=>match FY P f.ntmps an b,G9 P f.ntmps f.results.toList with
  |some c,some rs=>if f.params.size+f.nfree≤f.ntmps then some ⟨f.params.size+f.nfree,c,rs⟩else none
  |_,_=>none
 |none=>none
def JW:List Ba→Nat→List (Nat×J5)
 |[],_=>[]
 |o::os,i=>match o.op with
  | .call .pure _ _=>JW os (i+1)
  | .call m _ _=>(i,.mode m)::JW os (i+1)
  | .Ja .pure _ _=>JW os (i+1)
  | .Ja m _ _=>(i,.mode m)::JW os (i+1)
  | .KO _=>(i,.own)::JW os (i+1)
  | .lit true _ _ _ _=>(i,.own)::JW os (i+1)
  | .MR off e2 _ _=>(i,.AfA off e2)::JW os (i+1)
  |_=>JW os (i+1)
def Ahj (i:Nat) (l:List Nat):List KQ→List KQ
 |[]=>[]
 |a::r=>if a.id=i then{a with hdr:=l}::r else a::Ahj i l r
def anZ:Code→AZ→List KQ
 | .region id _ _,.region h MO ops live tr=>[{id:=id,head:=h,MO:=MO,live:=live,trunc:=tr,ops:=JW ops 0}]
 | .region id _ _,.par m _ MO ops live tr=>[{id:=id,head:=some m,MO:=MO,live:=live,trunc:=tr,ops:=JW ops 0,par:=true}]
 | .region id _ _,.mix m W pc MO ops live tr=>[{id:=id,wob:=W,pc:=pc,head:=some m,MO:=MO,live:=live,trunc:=tr,ops:=JW ops 0,mix:=true}]
 | .seq a b,.seq x y=>anZ a x++anZ b y
 | .cond _ a b,.cond _ x y=>anZ a x++anZ b y
 | .block _ a,.block _ x=>anZ a x
 | .loop a,.loop live x=>Ahj (Ky a) live (anZ a x)
 |_,_=>[]
def anF (f:Func) (a:Jd):List KQ:=match f.body with
 |some b=>anZ b a.body
 |none=>[]
def cok (f:Func) (a:Jd):Option Jd:=TJ P (anF f a) f
end AI
end Go.Proofs.YtceiccjppfapjaaGreatDoor
