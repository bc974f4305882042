/- From the model's code to the abstract interpreter's: the types' tables are looked up once, the places of variables are marked as told. -/
import Derived.Test.YtceiccjppfapjaaGreatDoorXCore
namespace Go.Proofs.YtceiccjppfapjaaGreatDoor
namespace AI
inductive IC where
 |own
 |AcU (off es:Nat)
 |mode (m:Mode)
 deriving Inhabited
structure I9 where
 id:Nat
 head:Option Nat:=none
 JE:List Nat:=[]
 live:List Nat:=[]
 trunc:Option Nat:=none
 ops:List (Nat×IC):=[]
 hdr:List Nat:=[]
 par:Bool:=false
 mix:Bool:=false
 wob:List Nat:=[]
 pc:List Nat:=[]
 deriving Inhabited
def Zi:List (Nat×IC)→Nat→Option IC
 |[],_=>none
 |(j,a)::r,i=>if i=j then some a else Zi r i
def EU:List I9→Nat→I9
 |[],i=>{id:=i}
 |a::r,i=>if a.id=i then a else EU r i
def Oe:Value→Option AV
 | .bool b=>some (.bool b)
 | .int k n=>some (.int k n)
 | .string s=>some (.str s.data.toList)
 | .slice none 0 0=>some (.sl false [])
 | .pointer none=>some .IZ
 | .map none=>some .Dj
 | .nilFunc=>some .FP
 | .nilIface=>some .GL
 | .func (.func f) fs cs=>if fs.size=0∧cs.size=0 then some (.fn f [])else none
 |_=>none
def ofValues:List Value→Option (List AV)
 |[]=>some []
 |v::vs=>match Oe v,ofValues vs with
  |some a,some b=>some (a::b)
  |_,_=>none
def ofValue:Value→Option AV
 | .agg cs=>(ofValues cs.toList).map .agg
 |v=>Oe v
def Az:Operand→Option AO
 | .tmp t=>some (.tmp t)
 | .const v=>(ofValue v).map .cst
 | .func f=>some (.cst (.fn f []))
 | .global _=>none
def BN:List Operand→Option (List AO)
 |[]=>some []
 |v::vs=>match Az v,BN vs with
  |some a,some b=>some (a::b)
  |_,_=>none
variable (P:Program)
def UL (t:TypeId):Bool:=match P.underlying t with
 |some (.struct _)|some (.array _ _)=>true
 |_=>false
def BG (t:TypeId):Option Nat:=match P.info? t with
 |some i=>if 0<i.size then some i.size else none
 |none=>none
def szT (t:TypeId):Option (Option Nat):=match P.underlying t,BG P t with
 |some (.struct _),some n=>some (some n)
 |some (.array _ _),some n=>some (some n)
 |some _,some 1=>some none
 |_,_=>none
def FZ (t:TypeId):Option (Nat×AV):=match P.info? t,BG P t with
 |some i,some n=>match i.zero with
  |some z=>match ofValue z with
   |some v=>if v.cells.length=n then some (n,v)else none
   |none=>none
  |none=>none
 |_,_=>none
def Ht (t:TypeId):Option Lh:=match P.underlying t with
 |some .bool=>some .bool
 |some (.int _)=>some .int
 |some .string=>some .str
 |_=>none
def TD:List Field→Nat→Option (List Lh)
 |[],_=>some []
 |f::fs,i=>match Ht P f.type,TD fs (i+1)with
  | some k, some ks => if f.offset = i ∧ (f.name == "_") = false ∧ BG P f.type = some 1 then some (k :: ks) else none
  |_,_=>none
def Y4 (t:TypeId):Lh:=match P.underlying t with
 |some .bool=>.bool
 |some (.int _)=>.int
 |some .string=>.str
 |some (.slice _)=>.slice
 |some (.pointer _)=>.ptr
 |some (.func _ _ _)=>.func
 |some (.map _ _)=>.map
 |some (.struct fs)=>match TD P fs.toList 0 with
  |some ks=>if P.eqGuardType P.depth t=false∧P.stoodInHeld t=false∧BG P t=some ks.length then .flat ks else .other
  |none=>.other
 |_=>.other
def MP (fs:List Field):List (Nat×Operand)→Option (List (Nat×Nat×AO))
 |[]=>some []
 |(i,x)::ps=>match nth fs i,Az x,MP fs ps with
  |some f,some a,some r=>match BG P f.type with
   |some n=>some ((f.offset,n,a)::r)
   |none=>none
  |_,_,_=>none
def Ip (es:Nat):List (Nat×Operand)→Option (List (Nat×Nat×AO))
 |[]=>some []
 |(i,x)::ps=>match Az x,Ip es ps with
  |some a,some r=>some ((i*es,es,a)::r)
  |_,_=>none
def Jg:List (Nat×Operand)→Option (List (Nat×AO))
 |[]=>some []
 |(i,x)::ps=>match Az x,Jg ps with
  |some a,some r=>some ((i,a)::r)
  |_,_=>none
def FM:Option Operand→Option (Option AO)
 |none=>some none
 |some x=>(Az x).map some
def isZero:Option Operand→Bool
 |some (.const (.int _ 0))=>true
 |_=>false
def Xc (m:Mode) (c:Call):Option Ci:=
 match c.callee,BN c.args.toList with
 | .value (.func f),some args=>some (.call m f args)
 | .value (.tmp t),some args=>some (.GU m (.tmp t) args)
 | .builtin .len,some [x]=>match nth c.argTypes.toList 0 with
   |some t=>match P.underlying t with
    |some .string=>some (.len .str x)
    |some (.slice _)=>some (.len .slice x)
    |some (.map _ _)=>some (.len .map x)
    |_=>none
   |none=>none
 | .builtin .min,some [x,y]=>some (.min x y)
 | .builtin .max,some [x,y]=>some (.max x y)
 | .builtin .append,some [x,y]=>match c.argTypes.toList with
   |[t,t']=>match P.underlying t with
    |some (.slice e)=>match FZ P e,P.info? e with
     |some (es,_),some i=>if 0<i.bytes∧t=t' then some (.append es i.bytes x y)else none
     |_,_=>none
    |_=>none
   |_=>none
 | .builtin .clear,some [x]=>match c.argTypes.toList with
   |[t]=>match P.underlying t with
    |some (.slice e)=>match FZ P e with
     |some (es,_)=>some (.clear es x)
     |none=>none
    |_=>none
   |_=>none
 | .builtin .delete,some [m,k]=>match c.argTypes.toList with
   |t::_=>match P.underlying t with
    |some (.map kt _)=>(Ht P kt).map fun l=>.delete l m k
    |_=>none
   |_=>none
 | .builtin .cap,some [x]=>match nth c.argTypes.toList 0 with
   |some t=>match P.underlying t with
    |some (.slice _)=>some (.len .func x)
    |_=>none
   |none=>none
 |_,_=>none
def Aht:Option IC→Mode
 |some (.mode m)=>m
 |_=>.pure
def OW (o:Oper) (ann:Option IC):Option Ci:=
 match o.op with
 | .move x=>(Az x).map .mov
 | .assign x=>match ann with
   |some .own=>match x,P.underlying o.type with
    | .const (.slice none 0 0),some (.slice e)=>(BG P e).map .I7
    |_,_=>none
   |_=>(Az x).map .mov
 | .pick c a b=>match Az c,Az a,Az b with
   |some c,some a,some b=>some (.pick c a b)
   |_,_,_=>none
 | .alloc t=>match ann with
   |some (.AcU off e2)=>match FZ P t with
    |some (n,.agg cs)=>some (.Jy off e2 n cs)
    |_=>none
   |_=>(FZ P t).map fun(n,z)=>.alloc n z
 | .box t x=>match BG P t,Az x with
   |some n,some x=>some (.box n x)
   |_,_=>none
 | .build t parts=>match FZ P t with
   |some (_,.agg z)=>match P.underlying t with
    |some (.struct fs)=>if fs.toList.all (fun f=>(BG P f.type).isSome)then(MP P fs.toList parts.toList).map (.build z)else none
    |some (.array _ e)=>match BG P e with
     |some es=>(Ip es parts.toList).map (.build z)
     |none=>none
    |_=>none
   |_=>none
 | .buildSlice t len parts=>match P.underlying t with
   |some (.slice e)=>match FZ P e,Jg parts.toList with
    |some (es,z),some ps=>if len*es≤16777216 then some (.lit (match ann with|some .own=>true|_=>false) es z len ps)else none
    |_,_=>none
   |_=>none
 | .load t a=>match szT P t,Az a with
   |some sz,some a=>some (.load sz a)
   |_,_=>none
 | .store t a x=>match BG P t,Az a,Az x with
   |some n,some a,some x=>some (.store n a x)
   |_,_,_=>none
 | .nilCheck x=>(Az x).map .OD
 | .binOp op t x y _=>match Az x,Az y with
   |some x,some y=>some (.bin op (Y4 P t) x y)
   |_,_=>none
 | .unOp op _ x=>(Az x).map (.un op)
 | .convert src dst x=>match P.underlying src,P.underlying dst,Az x with
   |some (.int _),some (.int k),some x=>some (.conv k x)
   |some .string,some .string,some x=>some (.convs x)
   |_,_,_=>none
 | .makeInterface t x=>match P.underlying t with
   |some (.interface _)=>none
   |some _=>(Az x).map (.AdO t)
   |none=>none
 | .makeFunc (.func f) fs caps=>if fs.size=0 then(BN caps.toList).map (.Abh f)else none
 | .makeMap _ none=>some .ND
 | .makeSlice t l c=>match P.underlying t with
   |some (.slice e)=>match FZ P e,P.info? e,Az l,Az c with
    |some (es,z),some i,some l,some c=>if 0<i.bytes then some (.H6 es i.bytes z l c)else none
    |_,_,_,_=>none
   |_=>none
 | .slice t x lo hi mx=>match P.underlying t,Az x,mx with
   |some (.slice e),some x,none=>match BG P e,FM lo,FM hi with
    |some es,some lo,some hi=>some (.slice es x lo hi)
    |_,_,_=>none
   |some .string,some x,none=>match FM lo,FM hi with
    |some lo,some hi=>some (.Kv x lo hi)
    |_,_=>none
   |some (.slice e),some x,some mx=>if(lo.isNone||isZero lo)&&isZero hi&&isZero (some mx)&&(BG P e).isSome then some (.QF x)else none
   |_,_,_=>none
 | .fieldAddr t x f=>match P.underlying t,Az x with
   |some (.struct fs),some x=>match nth fs.toList f with
    |some fd=>(BG P fd.type).map fun _=>.Qz fd.offset x
    |none=>none
   |_,_=>none
 | .field t x f=>match P.underlying t,Az x with
   |some (.struct fs),some x=>match nth fs.toList f with
    |some fd=>(szT P fd.type).map fun sz=>.field fd.offset sz x
    |none=>none
   |_,_=>none
 | .indexAddr t x i=>match P.underlying t,Az x,Az i with
   |some (.slice e),some x,some i=>(BG P e).map fun es=>.QA es x i
   |some (.array n e),some x,some i=>(BG P e).map fun es=>.VE es n x i
   |_,_,_=>none
 | .index t x i=>match P.underlying t,Az x,Az i with
   |some .string,some x,some i=>some (.Xn x i)
   |some (.array n e),some x,some i=>match BG P e,szT P e with
    |some es,some sz=>some (.Abg es n sz x i)
    |_,_=>none
   |_,_,_=>none
 | .lookup t m k P8=>match P.underlying t,Az m,Az k with
   |some (.map kt e),some m,some k=>match Ht P kt,FZ P e with
    |some l,some (_,z)=>some (.lookup l z P8 m k)
    |_,_=>none
   |_,_,_=>none
 | .mapUpdate t m k v| .insert t m k v=>match P.underlying t,Az m,Az k,Az v with
   |some (.map kt _),some m,some k,some v=>(Ht P kt).map fun l=>.mapset l m k v
   |_,_,_,_=>none
 | .extract x i=>(Az x).map fun x=>.ext x i
 | .panic x=>(Az x).map .panic
 | .call c=>Xc P (Aht ann) c
 |_=>none
def Ib (ops:Array Oper) (n:Nat):Option (Nat×Bool)→Option (Option (Nat×Bool))
 |none=>some none
 |some (j,b)=>match(ops[j]?).bind (·.dst)with
  |some t=>if t<n then some (some (t,b))else none
  |none=>none
def AcF (n:Nat):Option Nat→Bool
 |some d=>decide (d<n)
 |none=>true
def FD (ops:Array Oper) (n:Nat) (an:List (Nat×IC)):List Oper→Nat→Option (List AQ)
 |[],_=>some []
 |o::os,i=>match OW P o (Zi an i),Ib ops n o.guard,FD ops n an os (i+1)with
  |some ao,some g,some r=>if AcF n o.dst then some (⟨o.dst,ao,g⟩::r)else none
  |_,_,_=>none
def AO.slots:AO→List Nat
 | .tmp t=>[t]
 | .cst _=>[]
def slotsOf (o:AQ):List Nat:=
 o.dst.toList++o.op.CX.flatMap AO.slots++(match o.guard with|some (t,_)=>[t]|none=>[])
def UY (ops:Array Oper) (CX:List AQ) (m:Nat):Bool:=
 let b:=Region.before ops
 (List.range ops.size).all fun j=>match ops[j]?,CX[j]? with
    |some o,some ao=>
     (o.after.toList.all fun e=>!Region.binds .any e||decide (e.on<j))&&
     ((List.range ops.size).all fun i=>i==j||match(ops[i]?).bind (·.dst)with
       |some t=>!(slotsOf ao).contains t||(if i<j then(b.getD j 0).testBit i else(b.getD i 0).testBit j)
       |none=>true)&&
     (decide (j<m)||(List.range j).all fun i=>(b.getD j 0).testBit i)
    |_,_=>false
def Fv (m:Nat) (os:List AQ):Bool:=(os.take m).all fun o=>o.op.Fj
def JO (o:AQ):Nat:=match o.op.cls with
 |some .e=>0
 |some .r=>1
 |some .w=>2
 |some .a=>3
 |none=>4
def Ae8 (m:Nat) (os:List AQ):Bool:=(os.take m).all fun o=>JO o != 4
def Qd (ops:Array Oper) (os:List AQ) (m:Nat):List (Nat×Nat):=
 let b:=Region.before ops
 (List.range m).flatMap fun j=>((List.range j).filter fun i=>match os[i]?,os[j]? with
    |some oi,some oj=>!(b.getD j 0).testBit i&&JO oi != 0&&JO oj != 0&&(JO oi != 1||JO oj != 1)
    |_,_=>false).map fun i=>(i,j)
def IW:Code→Nat
 | .region id _ _=>id
 | .seq a _=>IW a
 | .cond _ a _=>IW a
 | .block _ a=>IW a
 | .loop a=>IW a
 |_=>0
def Wq (ops:Array Oper) (CX:List AQ) (m:Nat) (W pc:List Nat):Bool:=
 let b:=Region.before ops
 (match pc with
 |p::E=>(E.all fun i=>!DC i W)&&(List.range ops.size).all fun j=>decide (j≤p)||DC j E||(b.getD j 0).testBit p
 |[]=>true)&&
 (List.range ops.size).all fun j=>match ops[j]?,CX[j]? with
    |some o,some ao=>
     (o.after.toList.all fun e=>!Region.binds .any e||decide (e.on<j))&&
     ((List.range ops.size).all fun i=>i==j||match(ops[i]?).bind (·.dst)with
       |some t=>!(slotsOf ao).contains t||(if i<j then(b.getD j 0).testBit i else(b.getD i 0).testBit j)
       |none=>true)&&
     (decide (j<m)||flt ao||DC j W||(List.range j).all fun i=>(match CX[i]? with|some ai=>flt ai|none=>false)||DC i W||(b.getD j 0).testBit i)
    |_,_=>false
def OQ:Bh:=.cond (.cst (.int .i64 0)) .skip .skip
def Ez (n:Nat) (an:List I9):Code→Option Bh
 | .skip=>some .skip
 | .region id ops draw=>
   let a:=EU an id
   match FD P ops n a.ops ops.toList 0 with
   |some os=>if draw then
     let m:=a.head.getD os.length
     if a.par then
          if UY ops os m&&Ae8 m os&&decide (m≤ops.size)then some (.par m (Qd ops os m) a.JE os a.live a.trunc)else none
     else if a.mix then
          if Wq ops os m a.wob a.pc&&Fv m os then some (.mix m a.wob a.pc a.JE os a.live a.trunc)else none
     else if UY ops os m&&Fv m os then some (.region (some m) a.JE os a.live a.trunc)else none
    else some (.region none a.JE os a.live a.trunc)
   |none=>some OQ
 | .seq x y=>match Ez n an x,Ez n an y with
   |some a,some b=>some (.seq a b)
   |_,_=>none
 | .cond c x y=>match Az c,Ez n an x,Ez n an y with
   |some c,some a,some b=>some (.cond c a b)
   |_,_,_=>none
 | .block id x=>(Ez n an x).map (.block id)
 | .loop x=>(Ez n an x).map (.loop (EU an (IW x)).hdr)
 | .exit id=>some (.exit id)
 | .ret=>some .ret
 |_=>some OQ
def FH (n:Nat):List ResultVar→Option (List Uo)
 |[]=>some []
 | .tmp t::rs=>if t<n then(FH n rs).map (.tmp t::·)else none
 | .cell a t::rs=>match szT P t,FH n rs with
   |some sz,some r=>some (.cell a sz::r)
   |_,_=>none
def Px (an:List I9) (f:Func):Option G5:=
 match f.body with
 |some b=>match Ez P f.ntmps an b,FH P f.ntmps f.results.toList with
  |some c,some rs=>if f.params.size+f.nfree≤f.ntmps then some ⟨f.params.size+f.nfree,c,rs⟩else none
  |_,_=>none
 |none=>none
def Iy:List AQ→Nat→List (Nat×IC)
 |[],_=>[]
 |o::os,i=>match o.op with
  | .call .pure _ _=>Iy os (i+1)
  | .call m _ _=>(i,.mode m)::Iy os (i+1)
  | .GU .pure _ _=>Iy os (i+1)
  | .GU m _ _=>(i,.mode m)::Iy os (i+1)
  | .I7 _=>(i,.own)::Iy os (i+1)
  | .lit true _ _ _ _=>(i,.own)::Iy os (i+1)
  | .Jy off e2 _ _=>(i,.AcU off e2)::Iy os (i+1)
  |_=>Iy os (i+1)
def Adi (i:Nat) (l:List Nat):List I9→List I9
 |[]=>[]
 |a::r=>if a.id=i then{a with hdr:=l}::r else a::Adi i l r
def anZ:Code→Bh→List I9
 | .region id _ _,.region h JE ops live tr=>[{id:=id,head:=h,JE:=JE,live:=live,trunc:=tr,ops:=Iy ops 0}]
 | .region id _ _,.par m _ JE ops live tr=>[{id:=id,head:=some m,JE:=JE,live:=live,trunc:=tr,ops:=Iy ops 0,par:=true}]
 | .region id _ _,.mix m W pc JE ops live tr=>[{id:=id,wob:=W,pc:=pc,head:=some m,JE:=JE,live:=live,trunc:=tr,ops:=Iy ops 0,mix:=true}]
 | .seq a b,.seq x y=>anZ a x++anZ b y
 | .cond _ a b,.cond _ x y=>anZ a x++anZ b y
 | .block _ a,.block _ x=>anZ a x
 | .loop a,.loop live x=>Adi (IW a) live (anZ a x)
 |_,_=>[]
def anF (f:Func) (a:G5):List I9:=match f.body with
 |some b=>anZ b a.body
 |none=>[]
def cok (f:Func) (a:G5):Option G5:=Px P (anF f a) f
end AI
end Go.Proofs.YtceiccjppfapjaaGreatDoor
