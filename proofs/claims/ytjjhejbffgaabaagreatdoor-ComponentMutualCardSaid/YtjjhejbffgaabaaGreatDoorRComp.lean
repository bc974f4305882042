/- From the model's code to the abstract interpreter's: the types' tables are looked up once, the places of variables are marked as told. -/
import Derived.Test.YtjjhejbffgaabaaGreatDoorRCore
namespace Go.Proofs.YtjjhejbffgaabaaGreatDoor
namespace AI
inductive FT where
 |own
 |AeW (off es:Nat)
 |mode (m:Mode)
 deriving Inhabited
structure Fb where
 id:Nat
 head:Option Nat:=none
 JD:List Nat:=[]
 live:List Nat:=[]
 trunc:Option Nat:=none
 ops:List (Nat×FT):=[]
 hdr:List Nat:=[]
 par:Bool:=false
 mix:Bool:=false
 wob:List Nat:=[]
 pc:List Nat:=[]
 deriving Inhabited
def QC:List (Nat×FT)→Nat→Option FT
 |[],_=>none
 |(j,a)::r,i=>if i=j then some a else QC r i
def Ed:List Fb→Nat→Fb
 |[],i=>{id:=i}
 |a::r,i=>if a.id=i then a else Ed r i
def NG:Value→Option AV
 | .bool b=>some (.bool b)
 | .int k n=>some (.int k n)
 | .string s=>some (.str s.data.toList)
 | .slice none 0 0=>some (.sl false [])
 | .pointer none=>some .IZ
 | .map none=>some .Dp
 | .nilFunc=>some .FI
 | .nilIface=>some .Gw
 | .func (.func f) fs cs=>if fs.size=0∧cs.size=0 then some (.fn f [])else none
 |_=>none
def ofValues:List Value→Option (List AV)
 |[]=>some []
 |v::vs=>match NG v,ofValues vs with
  |some a,some b=>some (a::b)
  |_,_=>none
def ofValue:Value→Option AV
 | .agg cs=>(ofValues cs.toList).map .agg
 |v=>NG v
def Ap:Operand→Option AO
 | .tmp t=>some (.tmp t)
 | .const v=>(ofValue v).map .cst
 | .func f=>some (.cst (.fn f []))
 | .global _=>none
def BM:List Operand→Option (List AO)
 |[]=>some []
 |v::vs=>match Ap v,BM vs with
  |some a,some b=>some (a::b)
  |_,_=>none
variable (P:Program)
def UA (t:TypeId):Bool:=match P.underlying t with
 |some (.struct _)|some (.array _ _)=>true
 |_=>false
def BH (t:TypeId):Option Nat:=match P.info? t with
 |some i=>if 0<i.size then some i.size else none
 |none=>none
def szT (t:TypeId):Option (Option Nat):=match P.underlying t,BH P t with
 |some (.struct _),some n=>some (some n)
 |some (.array _ _),some n=>some (some n)
 |some _,some 1=>some none
 |_,_=>none
def EC (t:TypeId):Option (Nat×AV):=match P.info? t,BH P t with
 |some i,some n=>match i.zero with
  |some z=>match ofValue z with
   |some v=>if v.cells.length=n then some (n,v)else none
   |none=>none
  |none=>none
 |_,_=>none
def E8 (t:TypeId):Option JC:=match P.underlying t with
 |some .bool=>some .bool
 |some (.int _)=>some .int
 |some .string=>some .str
 |_=>none
def Tf:List Field→Nat→Option (List JC)
 |[],_=>some []
 |f::fs,i=>match E8 P f.type,Tf fs (i+1)with
  | some k, some ks => if f.offset = i ∧ (f.name == "_") = false ∧ BH P f.type = some 1 then some (k :: ks) else none
  |_,_=>none
def YJ (t:TypeId):JC:=match P.underlying t with
 |some .bool=>.bool
 |some (.int _)=>.int
 |some .string=>.str
 |some (.slice _)=>.slice
 |some (.pointer _)=>.ptr
 |some (.func _ _ _)=>.func
 |some (.map _ _)=>.map
 |some (.struct fs)=>match Tf P fs.toList 0 with
  |some ks=>if P.eqGuardType P.depth t=false∧P.stoodInHeld t=false∧BH P t=some ks.length then .flat ks else .other
  |none=>.other
 |_=>.other
def MI (fs:List Field):List (Nat×Operand)→Option (List (Nat×Nat×AO))
 |[]=>some []
 |(i,x)::ps=>match nth fs i,Ap x,MI fs ps with
  |some f,some a,some r=>match BH P f.type with
   |some n=>some ((f.offset,n,a)::r)
   |none=>none
  |_,_,_=>none
def Ib (es:Nat):List (Nat×Operand)→Option (List (Nat×Nat×AO))
 |[]=>some []
 |(i,x)::ps=>match Ap x,Ib es ps with
  |some a,some r=>some ((i*es,es,a)::r)
  |_,_=>none
def Jq:List (Nat×Operand)→Option (List (Nat×AO))
 |[]=>some []
 |(i,x)::ps=>match Ap x,Jq ps with
  |some a,some r=>some ((i,a)::r)
  |_,_=>none
def FC:Option Operand→Option (Option AO)
 |none=>some none
 |some x=>(Ap x).map some
def isZero:Option Operand→Bool
 |some (.const (.int _ 0))=>true
 |_=>false
def VD (m:Mode) (c:Call):Option Cb:=
 match c.callee,BM c.args.toList with
 | .value (.func f),some args=>some (.call m f args)
 | .value (.tmp t),some args=>some (.Gx m (.tmp t) args)
 | .builtin .len,some [x]=>match nth c.argTypes.toList 0 with
   |some t=>match P.underlying t with
    |some .string=>some (.len .str x)
    |some (.slice _)=>some (.len .slice x)
    |some (.map _ _)=>some (.len .map x)
    |_=>none
   |none=>none
 | .builtin .min,some [x,y]=>some (.min x y)
 | .builtin .max,some [x,y]=>some (.max x y)
 | .builtin .append,some [x,y]=>match c.argTypes.toList with
   |[t,t']=>match P.underlying t with
    |some (.slice e)=>match EC P e,P.info? e with
     |some (es,_),some i=>if 0<i.bytes∧t=t' then some (.append es i.bytes x y)else none
     |_,_=>none
    |_=>none
   |_=>none
 | .builtin .clear,some [x]=>match c.argTypes.toList with
   |[t]=>match P.underlying t with
    |some (.slice e)=>match EC P e with
     |some (es,_)=>some (.clear es x)
     |none=>none
    |_=>none
   |_=>none
 | .builtin .delete,some [m,k]=>match c.argTypes.toList with
   |t::_=>match P.underlying t with
    |some (.map kt _)=>(E8 P kt).map fun l=>.delete l m k
    |_=>none
   |_=>none
 | .builtin .cap,some [x]=>match nth c.argTypes.toList 0 with
   |some t=>match P.underlying t with
    |some (.slice _)=>some (.len .func x)
    |_=>none
   |none=>none
 |_,_=>none
def AfR:Option FT→Mode
 |some (.mode m)=>m
 |_=>.pure
def I4 (o:Oper) (ann:Option FT):Option Cb:=
 match o.op with
 | .move x=>(Ap x).map .Xl
 | .assign x=>match ann with
   |some .own=>match x,P.underlying o.type with
    | .const (.slice none 0 0),some (.slice e)=>(BH P e).map .I5
    |_,_=>none
   |_=>(Ap x).map .Xl
 | .pick c a b=>match Ap c,Ap a,Ap b with
   |some c,some a,some b=>some (.pick c a b)
   |_,_,_=>none
 | .alloc t=>match ann with
   |some (.AeW off e2)=>match EC P t with
    |some (n,.agg cs)=>some (.JJ off e2 n cs)
    |_=>none
   |_=>(EC P t).map fun(n,z)=>.alloc n z
 | .box t x=>match BH P t,Ap x with
   |some n,some x=>some (.box n x)
   |_,_=>none
 | .build t parts=>match EC P t with
   |some (_,.agg z)=>match P.underlying t with
    |some (.struct fs)=>if fs.toList.all (fun f=>(BH P f.type).isSome)then(MI P fs.toList parts.toList).map (.build z)else none
    |some (.array _ e)=>match BH P e with
     |some es=>(Ib es parts.toList).map (.build z)
     |none=>none
    |_=>none
   |_=>none
 | .buildSlice t len parts=>match P.underlying t with
   |some (.slice e)=>match EC P e,Jq parts.toList with
    |some (es,z),some ps=>if len*es≤16777216 then some (.lit (match ann with|some .own=>true|_=>false) es z len ps)else none
    |_,_=>none
   |_=>none
 | .load t a=>match szT P t,Ap a with
   |some sz,some a=>some (.load sz a)
   |_,_=>none
 | .store t a x=>match BH P t,Ap a,Ap x with
   |some n,some a,some x=>some (.store n a x)
   |_,_,_=>none
 | .nilCheck x=>(Ap x).map .OD
 | .binOp op t x y _=>match Ap x,Ap y with
   |some x,some y=>some (.bin op (YJ P t) x y)
   |_,_=>none
 | .unOp op _ x=>(Ap x).map (.un op)
 | .convert src dst x=>match P.underlying src,P.underlying dst,Ap x with
   |some (.int _),some (.int k),some x=>some (.conv k x)
   |some .string,some .string,some x=>some (.convs x)
   |_,_,_=>none
 | .makeInterface t x=>match P.underlying t with
   |some (.interface _)=>none
   |some _=>(Ap x).map (.AdG t)
   |none=>none
 | .makeFunc (.func f) fs caps=>if fs.size=0 then(BM caps.toList).map (.Abf f)else none
 | .makeMap _ none=>some .NH
 | .makeSlice t l c=>match P.underlying t with
   |some (.slice e)=>match EC P e,P.info? e,Ap l,Ap c with
    |some (es,z),some i,some l,some c=>if 0<i.bytes then some (.He es i.bytes z l c)else none
    |_,_,_,_=>none
   |_=>none
 | .slice t x lo hi mx=>match P.underlying t,Ap x,mx with
   |some (.slice e),some x,none=>match BH P e,FC lo,FC hi with
    |some es,some lo,some hi=>some (.slice es x lo hi)
    |_,_,_=>none
   |some .string,some x,none=>match FC lo,FC hi with
    |some lo,some hi=>some (.KH x lo hi)
    |_,_=>none
   |some (.slice e),some x,some mx=>if(lo.isNone||isZero lo)&&isZero hi&&isZero (some mx)&&(BH P e).isSome then some (.QD x)else none
   |_,_,_=>none
 | .fieldAddr t x f=>match P.underlying t,Ap x with
   |some (.struct fs),some x=>match nth fs.toList f with
    |some fd=>(BH P fd.type).map fun _=>.QE fd.offset x
    |none=>none
   |_,_=>none
 | .field t x f=>match P.underlying t,Ap x with
   |some (.struct fs),some x=>match nth fs.toList f with
    |some fd=>(szT P fd.type).map fun sz=>.field fd.offset sz x
    |none=>none
   |_,_=>none
 | .indexAddr t x i=>match P.underlying t,Ap x,Ap i with
   |some (.slice e),some x,some i=>(BH P e).map fun es=>.QF es x i
   |some (.array n e),some x,some i=>(BH P e).map fun es=>.VG es n x i
   |_,_,_=>none
 | .index t x i=>match P.underlying t,Ap x,Ap i with
   |some .string,some x,some i=>some (.Xx x i)
   |some (.array n e),some x,some i=>match BH P e,szT P e with
    |some es,some sz=>some (.Abg es n sz x i)
    |_,_=>none
   |_,_,_=>none
 | .lookup t m k P9=>match P.underlying t,Ap m,Ap k with
   |some (.map kt e),some m,some k=>match E8 P kt,EC P e with
    |some l,some (_,z)=>some (.lookup l z P9 m k)
    |_,_=>none
   |_,_,_=>none
 | .mapUpdate t m k v| .insert t m k v=>match P.underlying t,Ap m,Ap k,Ap v with
   |some (.map kt _),some m,some k,some v=>(E8 P kt).map fun l=>.mapset l m k v
   |_,_,_,_=>none
 | .extract x i=>(Ap x).map fun x=>.ext x i
 | .panic x=>(Ap x).map .panic
 | .call c=>VD P (AfR ann) c
 |_=>none
def Es (ops:Array Oper) (n:Nat):Option (Nat×Bool)→Option (Option (Nat×Bool))
 |none=>some none
 |some (j,b)=>match(ops[j]?).bind (·.dst)with
  |some t=>if t<n then some (some (t,b))else none
  |none=>none
def YK (n:Nat):Option Nat→Bool
 |some d=>decide (d<n)
 |none=>true
def CP (ops:Array Oper) (n:Nat) (an:List (Nat×FT)):List Oper→Nat→Option (List Aw)
 |[],_=>some []
 |o::os,i=>match I4 P o (QC an i),Es ops n o.guard,CP ops n an os (i+1)with
  |some ao,some g,some r=>if YK n o.dst then some (⟨o.dst,ao,g⟩::r)else none
  |_,_,_=>none
def AO.slots:AO→List Nat
 | .tmp t=>[t]
 | .cst _=>[]
def slotsOf (o:Aw):List Nat:=
 o.dst.toList++o.op.BK.flatMap AO.slots++(match o.guard with|some (t,_)=>[t]|none=>[])
def UC (ops:Array Oper) (BK:List Aw) (m:Nat):Bool:=
 let b:=Region.before ops
 (List.range ops.size).all fun j=>match ops[j]?,BK[j]? with
    |some o,some ao=>
     (o.after.toList.all fun e=>!Region.binds .any e||decide (e.on<j))&&
     ((List.range ops.size).all fun i=>i==j||match(ops[i]?).bind (·.dst)with
       |some t=>!(slotsOf ao).contains t||(if i<j then(b.getD j 0).testBit i else(b.getD i 0).testBit j)
       |none=>true)&&
     (decide (j<m)||(List.range j).all fun i=>(b.getD j 0).testBit i)
    |_,_=>false
def UD (ops:Array Oper) (BK:List Aw) (m f:Nat):Bool:=
 let b:=Region.before ops
 (List.range ops.size).all fun j=>match ops[j]?,BK[j]? with
    |some o,some ao=>
     (o.after.toList.all fun e=>!Region.binds .any e||decide (e.on<j))&&
     ((List.range ops.size).all fun i=>i==j||match(ops[i]?).bind (·.dst)with
       |some t=>!(slotsOf ao).contains t||(if i<j then(b.getD j 0).testBit i else(b.getD i 0).testBit j)
       |none=>true)&&
     (decide (j<m)||(List.range j).all fun i=>i==f||(b.getD j 0).testBit i)
    |_,_=>false
def DV (m:Nat) (os:List Aw):Bool:=(os.take m).all fun o=>o.op.E5
def JK (o:Aw):Nat:=match o.op.cls with
 |some .e=>0
 |some .r=>1
 |some .w=>2
 |some .a=>3
 |none=>4
def AdH (m:Nat) (os:List Aw):Bool:=(os.take m).all fun o=>JK o != 4
def Qa (ops:Array Oper) (os:List Aw) (m:Nat):List (Nat×Nat):=
 let b:=Region.before ops
 (List.range m).flatMap fun j=>((List.range j).filter fun i=>match os[i]?,os[j]? with
    |some oi,some oj=>!(b.getD j 0).testBit i&&JK oi != 0&&JK oj != 0&&(JK oi != 1||JK oj != 1)
    |_,_=>false).map fun i=>(i,j)
def IE:Code→Nat
 | .region id _ _=>id
 | .seq a _=>IE a
 | .cond _ a _=>IE a
 | .block _ a=>IE a
 | .loop a=>IE a
 |_=>0
def VH (ops:Array Oper) (BK:List Aw) (m:Nat) (W pc:List Nat):Bool:=
 let b:=Region.before ops
 (match pc with
 |p::E=>(E.all fun i=>!DJ i W)&&(List.range ops.size).all fun j=>decide (j≤p)||DJ j E||(b.getD j 0).testBit p
 |[]=>true)&&
 (List.range ops.size).all fun j=>match ops[j]?,BK[j]? with
    |some o,some ao=>
     (o.after.toList.all fun e=>!Region.binds .any e||decide (e.on<j))&&
     ((List.range ops.size).all fun i=>i==j||match(ops[i]?).bind (·.dst)with
       |some t=>!(slotsOf ao).contains t||(if i<j then(b.getD j 0).testBit i else(b.getD i 0).testBit j)
       |none=>true)&&
     (decide (j<m)||flt ao||DJ j W||(List.range j).all fun i=>(match BK[i]? with|some ai=>flt ai|none=>false)||DJ i W||(b.getD j 0).testBit i)
    |_,_=>false
def KI:AA:=.cond (.cst (.int .i64 0)) .skip .skip
def Ic (l:JC) (d1 d2 m k x:Nat):List Aw:=[⟨some d1,.Xl (.cst .junk),none⟩,⟨some d2,.Xl (.cst .junk),none⟩,⟨none,.mapset l (.tmp m) (.tmp k) (.tmp x),none⟩]
def QG (ops:Array Oper) (m:Nat):Option (TypeId×Nat×Nat×Nat×Nat×Nat):=
 match ops[m]?,ops[m+1]?,ops[m+2]? with
 |some o1,some o2,some o3=>match o1.op,o1.dst,o1.guard,o2.op,o2.dst,o2.guard with
  | .mapEntry t (.tmp tm) (.tmp tk),some d1,none,.extract (.tmp e1) 1,some d2,none=>match o3.op,o3.dst,o3.guard with
    | .entryStore _ (.tmp tm') (.tmp e2) (.tmp tx),none,none=>
      if e1=d1∧e2=d2∧tm'=tm∧d1≠d2∧(tm≠d1∧tm≠d2)∧(tk≠d1∧tk≠d2)∧(tx≠d1∧tx≠d2)∧tm≠tx∧tk≠tx then some (t,d1,d2,tm,tk,tx)else none
    |_,_,_=>none
  |_,_,_,_,_,_=>none
 |_,_,_=>none
def Qb (ops:Array Oper) (m tx d1 d2:Nat):Option (Nat×Nat):=
 match(List.range m).find? fun i=>(ops[i]?).bind (·.dst)==some tx with
 |some f=>match ops[f]? with
  |some o=>match o.op,o.guard with
   | .move (.tmp ty),none=>if o.dst=some tx∧ty≠d1∧ty≠d2∧f<m∧((Region.before ops).getD (m+2) 0).testBit f=true then some (f,ty)else none
   |_,_=>none
  |none=>none
 |none=>none
def AeX (ops:Array Oper) (BK:List Aw) (m:Nat):Bool:=match QG ops m with
 |some (_,d1,d2,_,_,tx)=>match Qb ops m tx d1 d2 with
  |some (f,_)=>UD ops BK m f&&DV m BK
  |none=>false
 |none=>false
def YL (n:Nat) (an:List (Nat×FT)) (ops:Array Oper) (m:Nat):Option (List Aw):=
 match QG ops m with
 |some (t,d1,d2,tm,tk,tx)=>match P.underlying t with
  |some (.map kt e)=>match E8 P kt,EC P e,CP P ops n an (ops.toList.take m) 0,CP P ops n an (ops.toList.drop (m+3)) (m+3)with
   |some l,some _,some hd,some tl=>if d1<n∧d2<n then some (hd++(Ic l d1 d2 tm tk tx++tl))else none
   |_,_,_,_=>none
  |_=>none
 |none=>none
def BP (n:Nat) (an:List Fb):Code→Option AA
 | .skip=>some .skip
 | .region id ops draw=>
   let a:=Ed an id
   match CP P ops n a.ops ops.toList 0 with
   |some os=>if draw then
     let m:=a.head.getD os.length
     if a.par then
          if UC ops os m&&AdH m os&&decide (m≤ops.size)then some (.par m (Qa ops os m) a.JD os a.live a.trunc)else none
     else if a.mix then
          if VH ops os m a.wob a.pc&&DV m os then some (.mix m a.wob a.pc a.JD os a.live a.trunc)else none
     else if UC ops os m&&DV m os then some (.region (some m) a.JD os a.live a.trunc)else none
    else some (.region none a.JD os a.live a.trunc)
   |none=>match a.head with
    |some m=>match YL P n a.ops ops m with
     |some os=>if draw&&AeX ops os m then some (.region (some m) a.JD os a.live a.trunc)else some KI
     |none=>some KI
    |none=>some KI
 | .seq x y=>match BP n an x,BP n an y with
   |some a,some b=>some (.seq a b)
   |_,_=>none
 | .cond c x y=>match Ap c,BP n an x,BP n an y with
   |some c,some a,some b=>some (.cond c a b)
   |_,_,_=>none
 | .block id x=>(BP n an x).map (.block id)
 | .loop x=>(BP n an x).map (.loop (Ed an (IE x)).hdr)
 | .exit id=>some (.exit id)
 | .ret=>some .ret
 |_=>some KI
def ED (n:Nat):List ResultVar→Option (List Sj)
 |[]=>some []
 | .tmp t::rs=>if t<n then(ED n rs).map (.tmp t::·)else none
 | .cell a t::rs=>match szT P t,ED n rs with
   |some sz,some r=>some (.cell a sz::r)
   |_,_=>none
def LX (an:List Fb) (f:Func):Option F9:=
 match f.body with
 |some b=>match BP P f.ntmps an b,ED P f.ntmps f.results.toList with
  |some c,some rs=>if f.params.size+f.nfree≤f.ntmps then some ⟨f.params.size+f.nfree,c,rs⟩else none
  |_,_=>none
 |none=>none
def Ie:List Aw→Nat→List (Nat×FT)
 |[],_=>[]
 |o::os,i=>match o.op with
  | .call .pure _ _=>Ie os (i+1)
  | .call m _ _=>(i,.mode m)::Ie os (i+1)
  | .Gx .pure _ _=>Ie os (i+1)
  | .Gx m _ _=>(i,.mode m)::Ie os (i+1)
  | .I5 _=>(i,.own)::Ie os (i+1)
  | .lit true _ _ _ _=>(i,.own)::Ie os (i+1)
  | .JJ off e2 _ _=>(i,.AeW off e2)::Ie os (i+1)
  |_=>Ie os (i+1)
def Abh (i:Nat) (l:List Nat):List Fb→List Fb
 |[]=>[]
 |a::r=>if a.id=i then{a with hdr:=l}::r else a::Abh i l r
def anZ:Code→AA→List Fb
 | .region id _ _,.region h JD ops live tr=>[{id:=id,head:=h,JD:=JD,live:=live,trunc:=tr,ops:=Ie ops 0}]
 | .region id _ _,.par m _ JD ops live tr=>[{id:=id,head:=some m,JD:=JD,live:=live,trunc:=tr,ops:=Ie ops 0,par:=true}]
 | .region id _ _,.mix m W pc JD ops live tr=>[{id:=id,wob:=W,pc:=pc,head:=some m,JD:=JD,live:=live,trunc:=tr,ops:=Ie ops 0,mix:=true}]
 | .seq a b,.seq x y=>anZ a x++anZ b y
 | .cond _ a b,.cond _ x y=>anZ a x++anZ b y
 | .block _ a,.block _ x=>anZ a x
 | .loop a,.loop live x=>Abh (IE a) live (anZ a x)
 |_,_=>[]
def anF (f:Func) (a:F9):List Fb:=match f.body with
 |some b=>anZ b a.body
 |none=>[]
def cok (f:Func) (a:F9):Option F9:=LX P (anF f a) f
end AI
end Go.Proofs.YtjjhejbffgaabaaGreatDoor
