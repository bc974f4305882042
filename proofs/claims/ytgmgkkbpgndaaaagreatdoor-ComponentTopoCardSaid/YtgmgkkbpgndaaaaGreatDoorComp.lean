/- From the model's code to the abstract interpreter's: the types' tables are looked up once, the places of variables are marked as told. -/
import Derived.Test.YtgmgkkbpgndaaaaGreatDoorCore
namespace Go.Proofs.YtgmgkkbpgndaaaaGreatDoor
namespace AI
inductive OAnn where
 |own
 |ownAt (off es:Nat)
 |mode (m:Mode)
 deriving Inhabited
structure RAnn where
 id:Nat
 head:Option Nat:=none
 frz:List Nat:=[]
 live:List Nat:=[]
 trunc:Option Nat:=none
 ops:List (Nat×OAnn):=[]
 hdr:List Nat:=[]
 par:Bool:=false
 mix:Bool:=false
 wob:List Nat:=[]
 pc:List Nat:=[]
 deriving Inhabited
def annOf:List (Nat×OAnn)→Nat→Option OAnn
 |[],_=>none
 |(j,a)::r,i=>if i=j then some a else annOf r i
def rannOf:List RAnn→Nat→RAnn
 |[],i=>{id:=i}
 |a::r,i=>if a.id=i then a else rannOf r i
def ofValue1:Value→Option AV
 | .bool b=>some (.bool b)
 | .int k n=>some (.int k n)
 | .string s=>some (.str s.data.toList)
 | .slice none 0 0=>some (.sl false [])
 | .pointer none=>some .nilp
 | .map none=>some .nilmap
 | .nilFunc=>some .nilfn
 | .nilIface=>some .nilif
 | .func (.func f) fs cs=>if fs.size=0∧cs.size=0 then some (.fn f [])else none
 |_=>none
def ofValues:List Value→Option (List AV)
 |[]=>some []
 |v::vs=>match ofValue1 v,ofValues vs with
  |some a,some b=>some (a::b)
  |_,_=>none
def ofValue:Value→Option AV
 | .agg cs=>(ofValues cs.toList).map .agg
 |v=>ofValue1 v
def ofOperand:Operand→Option AO
 | .tmp t=>some (.tmp t)
 | .const v=>(ofValue v).map .cst
 | .func f=>some (.cst (.fn f []))
 | .global _=>none
def ofOperands:List Operand→Option (List AO)
 |[]=>some []
 |v::vs=>match ofOperand v,ofOperands vs with
  |some a,some b=>some (a::b)
  |_,_=>none
variable (P:Program)
def isAggT (t:TypeId):Bool:=match P.underlying t with
 |some (.struct _)|some (.array _ _)=>true
 |_=>false
def cellsT (t:TypeId):Option Nat:=match P.info? t with
 |some i=>if 0<i.size then some i.size else none
 |none=>none
def szT (t:TypeId):Option (Option Nat):=match P.underlying t,cellsT P t with
 |some (.struct _),some n=>some (some n)
 |some (.array _ _),some n=>some (some n)
 |some _,some 1=>some none
 |_,_=>none
def zeroT (t:TypeId):Option (Nat×AV):=match P.info? t,cellsT P t with
 |some i,some n=>match i.zero with
  |some z=>match ofValue z with
   |some v=>if v.cells.length=n then some (n,v)else none
   |none=>none
  |none=>none
 |_,_=>none
def leafT (t:TypeId):Option EqT:=match P.underlying t with
 |some .bool=>some .bool
 |some (.int _)=>some .int
 |some .string=>some .str
 |_=>none
def flatT:List Field→Nat→Option (List EqT)
 |[],_=>some []
 |f::fs,i=>match leafT P f.type,flatT fs (i+1)with
  | some k, some ks => if f.offset = i ∧ (f.name == "_") = false ∧ cellsT P f.type = some 1 then some (k :: ks) else none
  |_,_=>none
def eqT (t:TypeId):EqT:=match P.underlying t with
 |some .bool=>.bool
 |some (.int _)=>.int
 |some .string=>.str
 |some (.slice _)=>.slice
 |some (.pointer _)=>.ptr
 |some (.func _ _ _)=>.func
 |some (.map _ _)=>.map
 |some (.struct fs)=>match flatT P fs.toList 0 with
  |some ks=>if P.eqGuardType P.depth t=false∧P.stoodInHeld t=false∧cellsT P t=some ks.length then .flat ks else .other
  |none=>.other
 |_=>.other
def partsT (fs:List Field):List (Nat×Operand)→Option (List (Nat×Nat×AO))
 |[]=>some []
 |(i,x)::ps=>match nth fs i,ofOperand x,partsT fs ps with
  |some f,some a,some r=>match cellsT P f.type with
   |some n=>some ((f.offset,n,a)::r)
   |none=>none
  |_,_,_=>none
def arrParts (es:Nat):List (Nat×Operand)→Option (List (Nat×Nat×AO))
 |[]=>some []
 |(i,x)::ps=>match ofOperand x,arrParts es ps with
  |some a,some r=>some ((i*es,es,a)::r)
  |_,_=>none
def litParts:List (Nat×Operand)→Option (List (Nat×AO))
 |[]=>some []
 |(i,x)::ps=>match ofOperand x,litParts ps with
  |some a,some r=>some ((i,a)::r)
  |_,_=>none
def optOperand:Option Operand→Option (Option AO)
 |none=>some none
 |some x=>(ofOperand x).map some
def isZero:Option Operand→Bool
 |some (.const (.int _ 0))=>true
 |_=>false
def compCall (m:Mode) (c:Call):Option AOp:=
 match c.callee,ofOperands c.args.toList with
 | .value (.func f),some args=>some (.call m f args)
 | .value (.tmp t),some args=>some (.callv m (.tmp t) args)
 | .builtin .len,some [x]=>match nth c.argTypes.toList 0 with
   |some t=>match P.underlying t with
    |some .string=>some (.len .str x)
    |some (.slice _)=>some (.len .slice x)
    |some (.map _ _)=>some (.len .map x)
    |_=>none
   |none=>none
 | .builtin .min,some [x,y]=>some (.min x y)
 | .builtin .max,some [x,y]=>some (.max x y)
 | .builtin .append,some [x,y]=>match c.argTypes.toList with
   |[t,t']=>match P.underlying t with
    |some (.slice e)=>match zeroT P e,P.info? e with
     |some (es,_),some i=>if 0<i.bytes∧t=t' then some (.append es i.bytes x y)else none
     |_,_=>none
    |_=>none
   |_=>none
 | .builtin .clear,some [x]=>match c.argTypes.toList with
   |[t]=>match P.underlying t with
    |some (.slice e)=>match zeroT P e with
     |some (es,_)=>some (.clear es x)
     |none=>none
    |_=>none
   |_=>none
 | .builtin .delete,some [m,k]=>match c.argTypes.toList with
   |t::_=>match P.underlying t with
    |some (.map kt _)=>(leafT P kt).map fun l=>.delete l m k
    |_=>none
   |_=>none
 | .builtin .cap,some [x]=>match nth c.argTypes.toList 0 with
   |some t=>match P.underlying t with
    |some (.slice _)=>some (.len .func x)
    |_=>none
   |none=>none
 |_,_=>none
def modeOf:Option OAnn→Mode
 |some (.mode m)=>m
 |_=>.pure
def compOp (o:Oper) (ann:Option OAnn):Option AOp:=
 match o.op with
 | .move x=>(ofOperand x).map .mov
 | .assign x=>match ann with
   |some .own=>match x,P.underlying o.type with
    | .const (.slice none 0 0),some (.slice e)=>(cellsT P e).map .newown
    |_,_=>none
   |_=>(ofOperand x).map .mov
 | .pick c a b=>match ofOperand c,ofOperand a,ofOperand b with
   |some c,some a,some b=>some (.pick c a b)
   |_,_,_=>none
 | .alloc t=>match ann with
   |some (.ownAt off e2)=>match zeroT P t with
    |some (n,.agg cs)=>some (.alloco off e2 n cs)
    |_=>none
   |_=>(zeroT P t).map fun(n,z)=>.alloc n z
 | .box t x=>match cellsT P t,ofOperand x with
   |some n,some x=>some (.box n x)
   |_,_=>none
 | .build t parts=>match zeroT P t with
   |some (_,.agg z)=>match P.underlying t with
    |some (.struct fs)=>if fs.toList.all (fun f=>(cellsT P f.type).isSome)then(partsT P fs.toList parts.toList).map (.build z)else none
    |some (.array _ e)=>match cellsT P e with
     |some es=>(arrParts es parts.toList).map (.build z)
     |none=>none
    |_=>none
   |_=>none
 | .buildSlice t len parts=>match P.underlying t with
   |some (.slice e)=>match zeroT P e,litParts parts.toList with
    |some (es,z),some ps=>if len*es≤16777216 then some (.lit (match ann with|some .own=>true|_=>false) es z len ps)else none
    |_,_=>none
   |_=>none
 | .load t a=>match szT P t,ofOperand a with
   |some sz,some a=>some (.load sz a)
   |_,_=>none
 | .store t a x=>match cellsT P t,ofOperand a,ofOperand x with
   |some n,some a,some x=>some (.store n a x)
   |_,_,_=>none
 | .nilCheck x=>(ofOperand x).map .nilchk
 | .binOp op t x y _=>match ofOperand x,ofOperand y with
   |some x,some y=>some (.bin op (eqT P t) x y)
   |_,_=>none
 | .unOp op _ x=>(ofOperand x).map (.un op)
 | .convert src dst x=>match P.underlying src,P.underlying dst,ofOperand x with
   |some (.int _),some (.int k),some x=>some (.conv k x)
   |some .string,some .string,some x=>some (.convs x)
   |_,_,_=>none
 | .makeInterface t x=>match P.underlying t with
   |some (.interface _)=>none
   |some _=>(ofOperand x).map (.mkif t)
   |none=>none
 | .makeFunc (.func f) fs caps=>if fs.size=0 then(ofOperands caps.toList).map (.mkfn f)else none
 | .makeMap _ none=>some .mkmap
 | .makeSlice t l c=>match P.underlying t with
   |some (.slice e)=>match zeroT P e,P.info? e,ofOperand l,ofOperand c with
    |some (es,z),some i,some l,some c=>if 0<i.bytes then some (.mkslice es i.bytes z l c)else none
    |_,_,_,_=>none
   |_=>none
 | .slice t x lo hi mx=>match P.underlying t,ofOperand x,mx with
   |some (.slice e),some x,none=>match cellsT P e,optOperand lo,optOperand hi with
    |some es,some lo,some hi=>some (.slice es x lo hi)
    |_,_,_=>none
   |some .string,some x,none=>match optOperand lo,optOperand hi with
    |some lo,some hi=>some (.sslice x lo hi)
    |_,_=>none
   |some (.slice e),some x,some mx=>if(lo.isNone||isZero lo)&&isZero hi&&isZero (some mx)&&(cellsT P e).isSome then some (.slice0 x)else none
   |_,_,_=>none
 | .fieldAddr t x f=>match P.underlying t,ofOperand x with
   |some (.struct fs),some x=>match nth fs.toList f with
    |some fd=>(cellsT P fd.type).map fun _=>.faddr fd.offset x
    |none=>none
   |_,_=>none
 | .field t x f=>match P.underlying t,ofOperand x with
   |some (.struct fs),some x=>match nth fs.toList f with
    |some fd=>(szT P fd.type).map fun sz=>.field fd.offset sz x
    |none=>none
   |_,_=>none
 | .indexAddr t x i=>match P.underlying t,ofOperand x,ofOperand i with
   |some (.slice e),some x,some i=>(cellsT P e).map fun es=>.iaddr es x i
   |some (.array n e),some x,some i=>(cellsT P e).map fun es=>.aaddr es n x i
   |_,_,_=>none
 | .index t x i=>match P.underlying t,ofOperand x,ofOperand i with
   |some .string,some x,some i=>some (.sidx x i)
   |some (.array n e),some x,some i=>match cellsT P e,szT P e with
    |some es,some sz=>some (.aidx es n sz x i)
    |_,_=>none
   |_,_,_=>none
 | .lookup t m k okk=>match P.underlying t,ofOperand m,ofOperand k with
   |some (.map kt e),some m,some k=>match leafT P kt,zeroT P e with
    |some l,some (_,z)=>some (.lookup l z okk m k)
    |_,_=>none
   |_,_,_=>none
 | .mapUpdate t m k v| .insert t m k v=>match P.underlying t,ofOperand m,ofOperand k,ofOperand v with
   |some (.map kt _),some m,some k,some v=>(leafT P kt).map fun l=>.mapset l m k v
   |_,_,_,_=>none
 | .extract x i=>(ofOperand x).map fun x=>.ext x i
 | .panic x=>(ofOperand x).map .panic
 | .call c=>compCall P (modeOf ann) c
 |_=>none
def compGuard (ops:Array Oper) (n:Nat):Option (Nat×Bool)→Option (Option (Nat×Bool))
 |none=>some none
 |some (j,b)=>match(ops[j]?).bind (·.dst)with
  |some t=>if t<n then some (some (t,b))else none
  |none=>none
def dstOk (n:Nat):Option Nat→Bool
 |some d=>decide (d<n)
 |none=>true
def compOps (ops:Array Oper) (n:Nat) (an:List (Nat×OAnn)):List Oper→Nat→Option (List AOper)
 |[],_=>some []
 |o::os,i=>match compOp P o (annOf an i),compGuard ops n o.guard,compOps ops n an os (i+1)with
  |some ao,some g,some r=>if dstOk n o.dst then some (⟨o.dst,ao,g⟩::r)else none
  |_,_,_=>none
def AO.slots:AO→List Nat
 | .tmp t=>[t]
 | .cst _=>[]
def slotsOf (o:AOper):List Nat:=
 o.dst.toList++o.op.aos.flatMap AO.slots++(match o.guard with|some (t,_)=>[t]|none=>[])
def drawOk (ops:Array Oper) (aos:List AOper) (m:Nat):Bool:=
 let b:=Region.before ops
 (List.range ops.size).all fun j=>match ops[j]?,aos[j]? with
    |some o,some ao=>
     (o.after.toList.all fun e=>!Region.binds .any e||decide (e.on<j))&&
     ((List.range ops.size).all fun i=>i==j||match(ops[i]?).bind (·.dst)with
       |some t=>!(slotsOf ao).contains t||(if i<j then(b.getD j 0).testBit i else(b.getD i 0).testBit j)
       |none=>true)&&
     (decide (j<m)||(List.range j).all fun i=>(b.getD j 0).testBit i)
    |_,_=>false
def drawOkF (ops:Array Oper) (aos:List AOper) (m f:Nat):Bool:=
 let b:=Region.before ops
 (List.range ops.size).all fun j=>match ops[j]?,aos[j]? with
    |some o,some ao=>
     (o.after.toList.all fun e=>!Region.binds .any e||decide (e.on<j))&&
     ((List.range ops.size).all fun i=>i==j||match(ops[i]?).bind (·.dst)with
       |some t=>!(slotsOf ao).contains t||(if i<j then(b.getD j 0).testBit i else(b.getD i 0).testBit j)
       |none=>true)&&
     (decide (j<m)||(List.range j).all fun i=>i==f||(b.getD j 0).testBit i)
    |_,_=>false
def pureHead (m:Nat) (os:List AOper):Bool:=(os.take m).all fun o=>o.op.pureOp
def clsN (o:AOper):Nat:=match o.op.cls with
 |some .e=>0
 |some .r=>1
 |some .w=>2
 |some .a=>3
 |none=>4
def parHead (m:Nat) (os:List AOper):Bool:=(os.take m).all fun o=>clsN o != 4
def unPairs (ops:Array Oper) (os:List AOper) (m:Nat):List (Nat×Nat):=
 let b:=Region.before ops
 (List.range m).flatMap fun j=>((List.range j).filter fun i=>match os[i]?,os[j]? with
    |some oi,some oj=>!(b.getD j 0).testBit i&&clsN oi != 0&&clsN oj != 0&&(clsN oi != 1||clsN oj != 1)
    |_,_=>false).map fun i=>(i,j)
def firstId:Code→Nat
 | .region id _ _=>id
 | .seq a _=>firstId a
 | .cond _ a _=>firstId a
 | .block _ a=>firstId a
 | .loop a=>firstId a
 |_=>0
def mixOk (ops:Array Oper) (aos:List AOper) (m:Nat) (W pc:List Nat):Bool:=
 let b:=Region.before ops
 (match pc with
 |p::E=>(E.all fun i=>!memN i W)&&(List.range ops.size).all fun j=>decide (j≤p)||memN j E||(b.getD j 0).testBit p
 |[]=>true)&&
 (List.range ops.size).all fun j=>match ops[j]?,aos[j]? with
    |some o,some ao=>
     (o.after.toList.all fun e=>!Region.binds .any e||decide (e.on<j))&&
     ((List.range ops.size).all fun i=>i==j||match(ops[i]?).bind (·.dst)with
       |some t=>!(slotsOf ao).contains t||(if i<j then(b.getD j 0).testBit i else(b.getD i 0).testBit j)
       |none=>true)&&
     (decide (j<m)||flt ao||memN j W||(List.range j).all fun i=>(match aos[i]? with|some ai=>flt ai|none=>false)||memN i W||(b.getD j 0).testBit i)
    |_,_=>false
def stuckC:ACode:=.cond (.cst (.int .i64 0)) .skip .skip
def entStand (l:EqT) (d1 d2 m k x:Nat):List AOper:=[⟨some d1,.mov (.cst .junk),none⟩,⟨some d2,.mov (.cst .junk),none⟩,⟨none,.mapset l (.tmp m) (.tmp k) (.tmp x),none⟩]
def entAt (ops:Array Oper) (m:Nat):Option (TypeId×Nat×Nat×Nat×Nat×Nat):=
 match ops[m]?,ops[m+1]?,ops[m+2]? with
 |some o1,some o2,some o3=>match o1.op,o1.dst,o1.guard,o2.op,o2.dst,o2.guard with
  | .mapEntry t (.tmp tm) (.tmp tk),some d1,none,.extract (.tmp e1) 1,some d2,none=>match o3.op,o3.dst,o3.guard with
    | .entryStore _ (.tmp tm') (.tmp e2) (.tmp tx),none,none=>
      if e1=d1∧e2=d2∧tm'=tm∧d1≠d2∧(tm≠d1∧tm≠d2)∧(tk≠d1∧tk≠d2)∧(tx≠d1∧tx≠d2)∧tm≠tx∧tk≠tx then some (t,d1,d2,tm,tk,tx)else none
    |_,_,_=>none
  |_,_,_,_,_,_=>none
 |_,_,_=>none
def entCopy (ops:Array Oper) (m tx d1 d2:Nat):Option (Nat×Nat):=
 match(List.range m).find? fun i=>(ops[i]?).bind (·.dst)==some tx with
 |some f=>match ops[f]? with
  |some o=>match o.op,o.guard with
   | .move (.tmp ty),none=>if o.dst=some tx∧ty≠d1∧ty≠d2∧f<m∧((Region.before ops).getD (m+2) 0).testBit f=true then some (f,ty)else none
   |_,_=>none
  |none=>none
 |none=>none
def entOk (ops:Array Oper) (aos:List AOper) (m:Nat):Bool:=match entAt ops m with
 |some (_,d1,d2,_,_,tx)=>match entCopy ops m tx d1 d2 with
  |some (f,_)=>drawOkF ops aos m f&&pureHead m aos
  |none=>false
 |none=>false
def compEnt (n:Nat) (an:List (Nat×OAnn)) (ops:Array Oper) (m:Nat):Option (List AOper):=
 match entAt ops m with
 |some (t,d1,d2,tm,tk,tx)=>match P.underlying t with
  |some (.map kt e)=>match leafT P kt,zeroT P e,compOps P ops n an (ops.toList.take m) 0,compOps P ops n an (ops.toList.drop (m+3)) (m+3)with
   |some l,some _,some hd,some tl=>if d1<n∧d2<n then some (hd++(entStand l d1 d2 tm tk tx++tl))else none
   |_,_,_,_=>none
  |_=>none
 |none=>none
def compC (n:Nat) (an:List RAnn):Code→Option ACode
 | .skip=>some .skip
 | .region id ops draw=>
   let a:=rannOf an id
   match compOps P ops n a.ops ops.toList 0 with
   |some os=>if draw then
     let m:=a.head.getD os.length
     if a.par then
          if drawOk ops os m&&parHead m os&&decide (m≤ops.size)then some (.par m (unPairs ops os m) a.frz os a.live a.trunc)else none
     else if a.mix then
          if mixOk ops os m a.wob a.pc&&pureHead m os then some (.mix m a.wob a.pc a.frz os a.live a.trunc)else none
     else if drawOk ops os m&&pureHead m os then some (.region (some m) a.frz os a.live a.trunc)else none
    else some (.region none a.frz os a.live a.trunc)
   |none=>match a.head with
    |some m=>match compEnt P n a.ops ops m with
     |some os=>if draw&&entOk ops os m then some (.region (some m) a.frz os a.live a.trunc)else some stuckC
     |none=>some stuckC
    |none=>some stuckC
 | .seq x y=>match compC n an x,compC n an y with
   |some a,some b=>some (.seq a b)
   |_,_=>none
 | .cond c x y=>match ofOperand c,compC n an x,compC n an y with
   |some c,some a,some b=>some (.cond c a b)
   |_,_,_=>none
 | .block id x=>(compC n an x).map (.block id)
 | .loop x=>(compC n an x).map (.loop (rannOf an (firstId x)).hdr)
 | .exit id=>some (.exit id)
 | .ret=>some .ret
 |_=>some stuckC
def compRes (n:Nat):List ResultVar→Option (List ARes)
 |[]=>some []
 | .tmp t::rs=>if t<n then(compRes n rs).map (.tmp t::·)else none
 | .cell a t::rs=>match szT P t,compRes n rs with
   |some sz,some r=>some (.cell a sz::r)
   |_,_=>none
def compF (an:List RAnn) (f:Func):Option AFunc:=
 match f.body with
 |some b=>match compC P f.ntmps an b,compRes P f.ntmps f.results.toList with
  |some c,some rs=>if f.params.size+f.nfree≤f.ntmps then some ⟨f.params.size+f.nfree,c,rs⟩else none
  |_,_=>none
 |none=>none
def annOps:List AOper→Nat→List (Nat×OAnn)
 |[],_=>[]
 |o::os,i=>match o.op with
  | .call .pure _ _=>annOps os (i+1)
  | .call m _ _=>(i,.mode m)::annOps os (i+1)
  | .callv .pure _ _=>annOps os (i+1)
  | .callv m _ _=>(i,.mode m)::annOps os (i+1)
  | .newown _=>(i,.own)::annOps os (i+1)
  | .lit true _ _ _ _=>(i,.own)::annOps os (i+1)
  | .alloco off e2 _ _=>(i,.ownAt off e2)::annOps os (i+1)
  |_=>annOps os (i+1)
def setHdr (i:Nat) (l:List Nat):List RAnn→List RAnn
 |[]=>[]
 |a::r=>if a.id=i then{a with hdr:=l}::r else a::setHdr i l r
def anZ:Code→ACode→List RAnn
 | .region id _ _,.region h frz ops live tr=>[{id:=id,head:=h,frz:=frz,live:=live,trunc:=tr,ops:=annOps ops 0}]
 | .region id _ _,.par m _ frz ops live tr=>[{id:=id,head:=some m,frz:=frz,live:=live,trunc:=tr,ops:=annOps ops 0,par:=true}]
 | .region id _ _,.mix m W pc frz ops live tr=>[{id:=id,wob:=W,pc:=pc,head:=some m,frz:=frz,live:=live,trunc:=tr,ops:=annOps ops 0,mix:=true}]
 | .seq a b,.seq x y=>anZ a x++anZ b y
 | .cond _ a b,.cond _ x y=>anZ a x++anZ b y
 | .block _ a,.block _ x=>anZ a x
 | .loop a,.loop live x=>setHdr (firstId a) live (anZ a x)
 |_,_=>[]
def anF (f:Func) (a:AFunc):List RAnn:=match f.body with
 |some b=>anZ b a.body
 |none=>[]
def cok (f:Func) (a:AFunc):Option AFunc:=compF P (anF f a) f
end AI
end Go.Proofs.YtgmgkkbpgndaaaaGreatDoor
