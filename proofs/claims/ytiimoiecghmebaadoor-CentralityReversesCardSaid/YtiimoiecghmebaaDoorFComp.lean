/- From the model's code to the abstract interpreter's: the types' tables are looked up once, the places of variables are marked as told. -/
import Derived.Test.YtiimoiecghmebaaDoorFCore
namespace Go.Proofs.YtiimoiecghmebaaDoor
namespace AI
inductive FZ where
 |own
 |Aft (off es:Nat)
 |mode (m:Mode)
 deriving Inhabited
structure EP where
 id:Nat
 head:Option Nat:=none
 JB:List Nat:=[]
 live:List Nat:=[]
 trunc:Option Nat:=none
 ops:List (Nat×FZ):=[]
 hdr:List Nat:=[]
 par:Bool:=false
 mix:Bool:=false
 wob:List Nat:=[]
 pc:List Nat:=[]
 deriving Inhabited
def Ru:List (Nat×FZ)→Nat→Option FZ
 |[],_=>none
 |(j,a)::r,i=>if i=j then some a else Ru r i
def DZ:List EP→Nat→EP
 |[],i=>{id:=i}
 |a::r,i=>if a.id=i then a else DZ r i
def Oh:Value→Option AV
 | .bool b=>some (.bool b)
 | .int k n=>some (.int k n)
 | .string s=>some (.str s.data.toList)
 | .slice none 0 0=>some (.sl false [])
 | .pointer none=>some .IL
 | .map none=>some .Cj
 | .nilFunc=>some .ET
 | .nilIface=>some .Gl
 | .func (.func f) fs cs=>if fs.size=0∧cs.size=0 then some (.fn f [])else none
 |_=>none
def ofValues:List Value→Option (List AV)
 |[]=>some []
 |v::vs=>match Oh v,ofValues vs with
  |some a,some b=>some (a::b)
  |_,_=>none
def ofValue:Value→Option AV
 | .agg cs=>(ofValues cs.toList).map .agg
 |v=>Oh v
def Ai:Operand→Option AO
 | .tmp t=>some (.tmp t)
 | .const v=>(ofValue v).map .cst
 | .func f=>some (.cst (.fn f []))
 | .global _=>none
def Bz:List Operand→Option (List AO)
 |[]=>some []
 |v::vs=>match Ai v,Bz vs with
  |some a,some b=>some (a::b)
  |_,_=>none
variable (P:Program)
def VG (t:TypeId):Bool:=match P.underlying t with
 |some (.struct _)|some (.array _ _)=>true
 |_=>false
def Ba (t:TypeId):Option Nat:=match P.info? t with
 |some i=>if 0<i.size then some i.size else none
 |none=>none
def szT (t:TypeId):Option (Option Nat):=match P.underlying t,Ba P t with
 |some (.struct _),some n=>some (some n)
 |some (.array _ _),some n=>some (some n)
 |some _,some 1=>some none
 |_,_=>none
def Et (t:TypeId):Option (Nat×AV):=match P.info? t,Ba P t with
 |some i,some n=>match i.zero with
  |some z=>match ofValue z with
   |some v=>if v.cells.length=n then some (n,v)else none
   |none=>none
  |none=>none
 |_,_=>none
def EJ (t:TypeId):Option IQ:=match P.underlying t with
 |some .bool=>some .bool
 |some (.int _)=>some .int
 |some .string=>some .str
 |_=>none
def UG:List Field→Nat→Option (List IQ)
 |[],_=>some []
 |f::fs,i=>match EJ P f.type,UG fs (i+1)with
  | some k, some ks => if f.offset = i ∧ (f.name == "_") = false ∧ Ba P f.type = some 1 then some (k :: ks) else none
  |_,_=>none
def Acg (t:TypeId):Option (List IQ):=match P.underlying t with
 |some (.struct gs)=>match UG P gs.toList 0 with
  |some ks=>if P.stoodInHeld t=false∧Ba P t=some ks.length then some ks else none
  |none=>none
 |_=>none
def Nl:List Field→Nat→Option (List IQ)
 |[],_=>some []
 |f::fs,i=>match EJ P f.type with
  |some k=>match Nl fs (i+1)with
   | some ks => if f.offset = i ∧ (f.name == "_") = false ∧ Ba P f.type = some 1 then some (k :: ks) else none
   |none=>none
  |none=>match Acg P f.type with
   |some js=>match Nl fs (i+js.length)with
    | some ks => if f.offset = i ∧ (f.name == "_") = false then some (js ++ ks) else none
    |none=>none
   |none=>none
def ZB (t:TypeId):IQ:=match P.underlying t with
 |some .bool=>.bool
 |some (.int _)=>.int
 |some .string=>.str
 |some (.slice _)=>.slice
 |some (.pointer _)=>.ptr
 |some (.func _ _ _)=>.func
 |some (.map _ _)=>.map
 |some (.struct fs)=>match Nl P fs.toList 0 with
  |some ks=>if P.eqGuardType P.depth t=false∧P.stoodInHeld t=false∧Ba P t=some ks.length then .flat ks else .other
  |none=>.other
 |_=>.other
def Ns (fs:List Field):List (Nat×Operand)→Option (List (Nat×Nat×AO))
 |[]=>some []
 |(i,x)::ps=>match nth fs i,Ai x,Ns fs ps with
  |some f,some a,some r=>match Ba P f.type with
   |some n=>some ((f.offset,n,a)::r)
   |none=>none
  |_,_,_=>none
def Iy (es:Nat):List (Nat×Operand)→Option (List (Nat×Nat×AO))
 |[]=>some []
 |(i,x)::ps=>match Ai x,Iy es ps with
  |some a,some r=>some ((i*es,es,a)::r)
  |_,_=>none
def Jo:List (Nat×Operand)→Option (List (Nat×AO))
 |[]=>some []
 |(i,x)::ps=>match Ai x,Jo ps with
  |some a,some r=>some ((i,a)::r)
  |_,_=>none
def Fp:Option Operand→Option (Option AO)
 |none=>some none
 |some x=>(Ai x).map some
def isZero:Option Operand→Bool
 |some (.const (.int _ 0))=>true
 |_=>false
def XE (m:Mode) (c:Call):Option BN:=
 match c.callee,Bz c.args.toList with
 | .value (.func f),some args=>some (.call m f args)
 | .value (.tmp t),some args=>some (.Gz m (.tmp t) args)
 | .builtin .len,some [x]=>match nth c.argTypes.toList 0 with
   |some t=>match P.underlying t with
    |some .string=>some (.len .str x)
    |some (.slice _)=>some (.len .slice x)
    |some (.map _ _)=>some (.len .map x)
    |_=>none
   |none=>none
 | .builtin .min,some [x,y]=>some (.min x y)
 | .builtin .max,some [x,y]=>some (.max x y)
 | .builtin .append,some [x,y]=>match c.argTypes.toList with
   |[t,t']=>match P.underlying t with
    |some (.slice e)=>match Et P e,P.info? e with
     |some (es,_),some i=>if 0<i.bytes∧t=t' then some (.append es i.bytes x y)else none
     |_,_=>none
    |_=>none
   |_=>none
 | .builtin .clear,some [x]=>match c.argTypes.toList with
   |[t]=>match P.underlying t with
    |some (.slice e)=>match Et P e with
     |some (es,_)=>some (.clear es x)
     |none=>none
    |_=>none
   |_=>none
 | .builtin .delete,some [m,k]=>match c.argTypes.toList with
   |t::_=>match P.underlying t with
    |some (.map kt _)=>(EJ P kt).map fun l=>.delete l m k
    |_=>none
   |_=>none
 | .builtin .cap,some [x]=>match nth c.argTypes.toList 0 with
   |some t=>match P.underlying t with
    |some (.slice _)=>some (.len .func x)
    |_=>none
   |none=>none
 |_,_=>none
def Agz:Option FZ→Mode
 |some (.mode m)=>m
 |_=>.pure
def Jd (o:Oper) (ann:Option FZ):Option BN:=
 match o.op with
 | .move x=>(Ai x).map .Yg
 | .assign x=>match ann with
   |some .own=>match x,P.underlying o.type with
    | .const (.slice none 0 0),some (.slice e)=>(Ba P e).map .Jb
    |_,_=>none
   |_=>(Ai x).map .Yg
 | .pick c a b=>match Ai c,Ai a,Ai b with
   |some c,some a,some b=>some (.pick c a b)
   |_,_,_=>none
 | .alloc t=>match ann with
   |some (.Aft off e2)=>match Et P t with
    |some (n,.agg cs)=>some (.JD off e2 n cs)
    |_=>none
   |_=>(Et P t).map fun(n,z)=>.alloc n z
 | .box t x=>match Ba P t,Ai x with
   |some n,some x=>some (.box n x)
   |_,_=>none
 | .build t parts=>match Et P t with
   |some (_,.agg z)=>match P.underlying t with
    |some (.struct fs)=>if fs.toList.all (fun f=>(Ba P f.type).isSome)then(Ns P fs.toList parts.toList).map (.build z)else none
    |some (.array _ e)=>match Ba P e with
     |some es=>(Iy es parts.toList).map (.build z)
     |none=>none
    |_=>none
   |_=>none
 | .buildSlice t len parts=>match P.underlying t with
   |some (.slice e)=>match Et P e,Jo parts.toList with
    |some (es,z),some ps=>if len*es≤16777216 then some (.lit (match ann with|some .own=>true|_=>false) es z len ps)else none
    |_,_=>none
   |_=>none
 | .load t a=>match szT P t,Ai a with
   |some sz,some a=>some (.load sz a)
   |_,_=>none
 | .store t a x=>match Ba P t,Ai a,Ai x with
   |some n,some a,some x=>some (.store n a x)
   |_,_,_=>none
 | .nilCheck x=>(Ai x).map .Pm
 | .binOp op t x y _=>match Ai x,Ai y with
   |some x,some y=>some (.bin op (ZB P t) x y)
   |_,_=>none
 | .unOp op _ x=>(Ai x).map (.un op)
 | .convert src dst x=>match P.underlying src,P.underlying dst,Ai x with
   |some (.int _),some (.int k),some x=>some (.conv k x)
   |some .string,some .string,some x=>some (.convs x)
   |_,_,_=>none
 | .makeInterface t x=>match P.underlying t with
   |some (.interface _)=>none
   |some _=>(Ai x).map (.AdT t)
   |none=>none
 | .makeFunc (.func f) fs caps=>if fs.size=0 then(Bz caps.toList).map (.AbL f)else none
 | .makeMap _ none=>some .NT
 | .makeSlice t l c=>match P.underlying t with
   |some (.slice e)=>match Et P e,P.info? e,Ai l,Ai c with
    |some (es,z),some i,some l,some c=>if 0<i.bytes then some (.Hg es i.bytes z l c)else none
    |_,_,_,_=>none
   |_=>none
 | .slice t x lo hi mx=>match P.underlying t,Ai x,mx with
   |some (.slice e),some x,none=>match Ba P e,Fp lo,Fp hi with
    |some es,some lo,some hi=>some (.slice es x lo hi)
    |_,_,_=>none
   |some .string,some x,none=>match Fp lo,Fp hi with
    |some lo,some hi=>some (.KC x lo hi)
    |_,_=>none
   |some (.slice e),some x,some mx=>if(lo.isNone||isZero lo)&&isZero hi&&isZero (some mx)&&(Ba P e).isSome then some (.Rl x)else none
   |_,_,_=>none
 | .fieldAddr t x f=>match P.underlying t,Ai x with
   |some (.struct fs),some x=>match nth fs.toList f with
    |some fd=>(Ba P fd.type).map fun _=>.PZ fd.offset x
    |none=>none
   |_,_=>none
 | .field t x f=>match P.underlying t,Ai x with
   |some (.struct fs),some x=>match nth fs.toList f with
    |some fd=>(szT P fd.type).map fun sz=>.field fd.offset sz x
    |none=>none
   |_,_=>none
 | .indexAddr t x i=>match P.underlying t,Ai x,Ai i with
   |some (.slice e),some x,some i=>(Ba P e).map fun es=>.Rk es x i
   |some (.array n e),some x,some i=>(Ba P e).map fun es=>.WT es n x i
   |_,_,_=>none
 | .index t x i=>match P.underlying t,Ai x,Ai i with
   |some .string,some x,some i=>some (.Ym x i)
   |some (.array n e),some x,some i=>match Ba P e,szT P e with
    |some es,some sz=>some (.AbK es n sz x i)
    |_,_=>none
   |_,_,_=>none
 | .lookup t m k QH=>match P.underlying t,Ai m,Ai k with
   |some (.map kt e),some m,some k=>match EJ P kt,Et P e with
    |some l,some (_,z)=>some (.lookup l z QH m k)
    |_,_=>none
   |_,_,_=>none
 | .mapUpdate t m k v| .insert t m k v=>match P.underlying t,Ai m,Ai k,Ai v with
   |some (.map kt _),some m,some k,some v=>(EJ P kt).map fun l=>.mapset l m k v
   |_,_,_,_=>none
 | .extract x i=>(Ai x).map fun x=>.ext x i
 | .panic x=>(Ai x).map .panic
 | .call c=>XE P (Agz ann) c
 |_=>none
def Ec (ops:Array Oper) (n:Nat):Option (Nat×Bool)→Option (Option (Nat×Bool))
 |none=>some none
 |some (j,b)=>match(ops[j]?).bind (·.dst)with
  |some t=>if t<n then some (some (t,b))else none
  |none=>none
def Zz (n:Nat):Option Nat→Bool
 |some d=>decide (d<n)
 |none=>true
def Cc (ops:Array Oper) (n:Nat) (an:List (Nat×FZ)):List Oper→Nat→Option (List Ap)
 |[],_=>some []
 |o::os,i=>match Jd P o (Ru an i),Ec ops n o.guard,Cc ops n an os (i+1)with
  |some ao,some g,some r=>if Zz n o.dst then some (⟨o.dst,ao,g⟩::r)else none
  |_,_,_=>none
def AO.slots:AO→List Nat
 | .tmp t=>[t]
 | .cst _=>[]
def slotsOf (o:Ap):List Nat:=
 o.dst.toList++o.op.Bl.flatMap AO.slots++(match o.guard with|some (t,_)=>[t]|none=>[])
def Vw (ops:Array Oper) (Bl:List Ap) (m:Nat):Bool:=
 let b:=Region.before ops
 (List.range ops.size).all fun j=>match ops[j]?,Bl[j]? with
    |some o,some ao=>
     (o.after.toList.all fun e=>!Region.binds .any e||decide (e.on<j))&&
     ((List.range ops.size).all fun i=>i==j||match(ops[i]?).bind (·.dst)with
       |some t=>!(slotsOf ao).contains t||(if i<j then(b.getD j 0).testBit i else(b.getD i 0).testBit j)
       |none=>true)&&
     (decide (j<m)||(List.range j).all fun i=>(b.getD j 0).testBit i)
    |_,_=>false
def Vy (ops:Array Oper) (Bl:List Ap) (m f:Nat):Bool:=
 let b:=Region.before ops
 (List.range ops.size).all fun j=>match ops[j]?,Bl[j]? with
    |some o,some ao=>
     (o.after.toList.all fun e=>!Region.binds .any e||decide (e.on<j))&&
     ((List.range ops.size).all fun i=>i==j||match(ops[i]?).bind (·.dst)with
       |some t=>!(slotsOf ao).contains t||(if i<j then(b.getD j 0).testBit i else(b.getD i 0).testBit j)
       |none=>true)&&
     (decide (j<m)||(List.range j).all fun i=>i==f||(b.getD j 0).testBit i)
    |_,_=>false
def DJ (m:Nat) (os:List Ap):Bool:=(os.take m).all fun o=>o.op.EM
def J4 (o:Ap):Nat:=match o.op.cls with
 |some .e=>0
 |some .r=>1
 |some .w=>2
 |some .a=>3
 |none=>4
def AeB (m:Nat) (os:List Ap):Bool:=(os.take m).all fun o=>J4 o != 4
def QZ (ops:Array Oper) (os:List Ap) (m:Nat):List (Nat×Nat):=
 let b:=Region.before ops
 (List.range m).flatMap fun j=>((List.range j).filter fun i=>match os[i]?,os[j]? with
    |some oi,some oj=>!(b.getD j 0).testBit i&&J4 oi != 0&&J4 oj != 0&&(J4 oi != 1||J4 oj != 1)
    |_,_=>false).map fun i=>(i,j)
def IZ:Code→Nat
 | .region id _ _=>id
 | .seq a _=>IZ a
 | .cond _ a _=>IZ a
 | .block _ a=>IZ a
 | .loop a=>IZ a
 |_=>0
def XF (ops:Array Oper) (Bl:List Ap) (m:Nat) (W pc:List Nat):Bool:=
 let b:=Region.before ops
 (match pc with
 |p::E=>(E.all fun i=>!Dp i W)&&(List.range ops.size).all fun j=>decide (j≤p)||Dp j E||(b.getD j 0).testBit p
 |[]=>true)&&
 (List.range ops.size).all fun j=>match ops[j]?,Bl[j]? with
    |some o,some ao=>
     (o.after.toList.all fun e=>!Region.binds .any e||decide (e.on<j))&&
     ((List.range ops.size).all fun i=>i==j||match(ops[i]?).bind (·.dst)with
       |some t=>!(slotsOf ao).contains t||(if i<j then(b.getD j 0).testBit i else(b.getD i 0).testBit j)
       |none=>true)&&
     (decide (j<m)||flt ao||Dp j W||(List.range j).all fun i=>(match Bl[i]? with|some ai=>flt ai|none=>false)||Dp i W||(b.getD j 0).testBit i)
    |_,_=>false
def KH:AY:=.cond (.cst (.int .i64 0)) .skip .skip
def Iu (l:IQ) (d1 d2 m k x:Nat):List Ap:=[⟨some d1,.Yg (.cst .junk),none⟩,⟨some d2,.Yg (.cst .junk),none⟩,⟨none,.mapset l (.tmp m) (.tmp k) (.tmp x),none⟩]
def RG (ops:Array Oper) (m:Nat):Option (TypeId×Nat×Nat×Nat×Nat×Nat):=
 match ops[m]?,ops[m+1]?,ops[m+2]? with
 |some o1,some o2,some o3=>match o1.op,o1.dst,o1.guard,o2.op,o2.dst,o2.guard with
  | .mapEntry t (.tmp tm) (.tmp tk),some d1,none,.extract (.tmp e1) 1,some d2,none=>match o3.op,o3.dst,o3.guard with
    | .entryStore _ (.tmp tm') (.tmp e2) (.tmp tx),none,none=>
      if e1=d1∧e2=d2∧tm'=tm∧d1≠d2∧(tm≠d1∧tm≠d2)∧(tk≠d1∧tk≠d2)∧(tx≠d1∧tx≠d2)∧tm≠tx∧tk≠tx then some (t,d1,d2,tm,tk,tx)else none
    |_,_,_=>none
  |_,_,_,_,_,_=>none
 |_,_,_=>none
def QS (ops:Array Oper) (m tx d1 d2:Nat):Option (Nat×Nat):=
 match(List.range m).find? fun i=>(ops[i]?).bind (·.dst)==some tx with
 |some f=>match ops[f]? with
  |some o=>match o.op,o.guard with
   | .move (.tmp ty),none=>if o.dst=some tx∧ty≠d1∧ty≠d2∧f<m∧((Region.before ops).getD (m+2) 0).testBit f=true then some (f,ty)else none
   |_,_=>none
  |none=>none
 |none=>none
def Afu (ops:Array Oper) (Bl:List Ap) (m:Nat):Bool:=match RG ops m with
 |some (_,d1,d2,_,_,tx)=>match QS ops m tx d1 d2 with
  |some (f,_)=>Vy ops Bl m f&&DJ m Bl
  |none=>false
 |none=>false
def ZT (n:Nat) (an:List (Nat×FZ)) (ops:Array Oper) (m:Nat):Option (List Ap):=
 match RG ops m with
 |some (t,d1,d2,tm,tk,tx)=>match P.underlying t with
  |some (.map kt e)=>match EJ P kt,Et P e,Cc P ops n an (ops.toList.take m) 0,Cc P ops n an (ops.toList.drop (m+3)) (m+3)with
   |some l,some _,some hd,some tl=>if d1<n∧d2<n then some (hd++(Iu l d1 d2 tm tk tx++tl))else none
   |_,_,_,_=>none
  |_=>none
 |none=>none
def BH (n:Nat) (an:List EP):Code→Option AY
 | .skip=>some .skip
 | .region id ops draw=>
   let a:=DZ an id
   match Cc P ops n a.ops ops.toList 0 with
   |some os=>if draw then
     let m:=a.head.getD os.length
     if a.par then
          if Vw ops os m&&AeB m os&&decide (m≤ops.size)then some (.par m (QZ ops os m) a.JB os a.live a.trunc)else none
     else if a.mix then
          if XF ops os m a.wob a.pc&&DJ m os then some (.mix m a.wob a.pc a.JB os a.live a.trunc)else none
     else if Vw ops os m&&DJ m os then some (.region (some m) a.JB os a.live a.trunc)else none
    else some (.region none a.JB os a.live a.trunc)
   |none=>match a.head with
    |some m=>match ZT P n a.ops ops m with
     |some os=>if draw&&Afu ops os m then some (.region (some m) a.JB os a.live a.trunc)else some KH
     |none=>some KH
    |none=>some KH
 | .seq x y=>match BH n an x,BH n an y with
   |some a,some b=>some (.seq a b)
   |_,_=>none
 | .cond c x y=>match Ai c,BH n an x,BH n an y with
   |some c,some a,some b=>some (.cond c a b)
   |_,_,_=>none
 | .block id x=>(BH n an x).map (.block id)
 | .loop x=>(BH n an x).map (.loop (DZ an (IZ x)).hdr)
 | .exit id=>some (.exit id)
 | .ret=>some .ret
 |_=>some KH
def F7 (n:Nat):List ResultVar→Option (List Vh)
 |[]=>some []
 | .tmp t::rs=>if t<n then(F7 n rs).map (.tmp t::·)else none
 | .cell a t::rs=>match szT P t,F7 n rs with
   |some sz,some r=>some (.cell a sz::r)
   |_,_=>none
def MJ (an:List EP) (f:Func):Option FC:=
 match f.body with
 |some b=>match BH P f.ntmps an b,F7 P f.ntmps f.results.toList with
  |some c,some rs=>if f.params.size+f.nfree≤f.ntmps then some ⟨f.params.size+f.nfree,c,rs⟩else none
  |_,_=>none
 |none=>none
def IE:List Ap→Nat→List (Nat×FZ)
 |[],_=>[]
 |o::os,i=>match o.op with
  | .call .pure _ _=>IE os (i+1)
  | .call m _ _=>(i,.mode m)::IE os (i+1)
  | .Gz .pure _ _=>IE os (i+1)
  | .Gz m _ _=>(i,.mode m)::IE os (i+1)
  | .Jb _=>(i,.own)::IE os (i+1)
  | .lit true _ _ _ _=>(i,.own)::IE os (i+1)
  | .JD off e2 _ _=>(i,.Aft off e2)::IE os (i+1)
  |_=>IE os (i+1)
def AcM (i:Nat) (l:List Nat):List EP→List EP
 |[]=>[]
 |a::r=>if a.id=i then{a with hdr:=l}::r else a::AcM i l r
def anZ:Code→AY→List EP
 | .region id _ _,.region h JB ops live tr=>[{id:=id,head:=h,JB:=JB,live:=live,trunc:=tr,ops:=IE ops 0}]
 | .region id _ _,.par m _ JB ops live tr=>[{id:=id,head:=some m,JB:=JB,live:=live,trunc:=tr,ops:=IE ops 0,par:=true}]
 | .region id _ _,.mix m W pc JB ops live tr=>[{id:=id,wob:=W,pc:=pc,head:=some m,JB:=JB,live:=live,trunc:=tr,ops:=IE ops 0,mix:=true}]
 | .seq a b,.seq x y=>anZ a x++anZ b y
 | .cond _ a b,.cond _ x y=>anZ a x++anZ b y
 | .block _ a,.block _ x=>anZ a x
 | .loop a,.loop live x=>AcM (IZ a) live (anZ a x)
 |_,_=>[]
def anF (f:Func) (a:FC):List EP:=match f.body with
 |some b=>anZ b a.body
 |none=>[]
def cok (f:Func) (a:FC):Option FC:=MJ P (anF f a) f
end AI
end Go.Proofs.YtiimoiecghmebaaDoor
