/- From the model's code to the abstract interpreter's: the types' tables are looked up once, the places of variables are marked as told. -/
import Derived.Test.YtchcadfjbkkgmaaGreatDoorECore
namespace Go.Proofs.YtchcadfjbkkgmaaGreatDoor
namespace AI
inductive FZ where
 |own
 |Af8 (off es:Nat)
 |mode (m:Mode)
 deriving Inhabited
structure ED where
 id:Nat
 head:Option Nat:=none
 JQ:List Nat:=[]
 live:List Nat:=[]
 trunc:Option Nat:=none
 ops:List (Nat×FZ):=[]
 hdr:List Nat:=[]
 par:Bool:=false
 mix:Bool:=false
 wob:List Nat:=[]
 pc:List Nat:=[]
 deriving Inhabited
def Ry:List (Nat×FZ)→Nat→Option FZ
 |[],_=>none
 |(j,a)::r,i=>if i=j then some a else Ry r i
def D6:List ED→Nat→ED
 |[],i=>{id:=i}
 |a::r,i=>if a.id=i then a else D6 r i
def Oc:Value→Option AV
 | .bool b=>some (.bool b)
 | .int k n=>some (.int k n)
 | .string s=>some (.str s.data.toList)
 | .slice none 0 0=>some (.sl false [])
 | .pointer none=>some .Ja
 | .map none=>some .CJ
 | .nilFunc=>some .Fe
 | .nilIface=>some .Gp
 | .func (.func f) fs cs=>if fs.size=0∧cs.size=0 then some (.fn f [])else none
 |_=>none
def ofValues:List Value→Option (List AV)
 |[]=>some []
 |v::vs=>match Oc v,ofValues vs with
  |some a,some b=>some (a::b)
  |_,_=>none
def ofValue:Value→Option AV
 | .agg cs=>(ofValues cs.toList).map .agg
 |v=>Oc v
def Am:Operand→Option AO
 | .tmp t=>some (.tmp t)
 | .const v=>(ofValue v).map .cst
 | .func f=>some (.cst (.fn f []))
 | .global _=>none
def BH:List Operand→Option (List AO)
 |[]=>some []
 |v::vs=>match Am v,BH vs with
  |some a,some b=>some (a::b)
  |_,_=>none
variable (P:Program)
def Vy (t:TypeId):Bool:=match P.underlying t with
 |some (.struct _)|some (.array _ _)=>true
 |_=>false
def Bd (t:TypeId):Option Nat:=match P.info? t with
 |some i=>if 0<i.size then some i.size else none
 |none=>none
def szT (t:TypeId):Option (Option Nat):=match P.underlying t,Bd P t with
 |some (.struct _),some n=>some (some n)
 |some (.array _ _),some n=>some (some n)
 |some _,some 1=>some none
 |_,_=>none
def Ep (t:TypeId):Option (Nat×AV):=match P.info? t,Bd P t with
 |some i,some n=>match i.zero with
  |some z=>match ofValue z with
   |some v=>if v.cells.length=n then some (n,v)else none
   |none=>none
  |none=>none
 |_,_=>none
def EY (t:TypeId):Option Jb:=match P.underlying t with
 |some .bool=>some .bool
 |some (.int _)=>some .int
 |some .string=>some .str
 |_=>none
def Uz:List Field→Nat→Option (List Jb)
 |[],_=>some []
 |f::fs,i=>match EY P f.type,Uz fs (i+1)with
  | some k, some ks => if f.offset = i ∧ (f.name == "_") = false ∧ Bd P f.type = some 1 then some (k :: ks) else none
  |_,_=>none
def Ace (t:TypeId):Option (List Jb):=match P.underlying t with
 |some (.struct gs)=>match Uz P gs.toList 0 with
  |some ks=>if P.stoodInHeld t=false∧Bd P t=some ks.length then some ks else none
  |none=>none
 |_=>none
def Ns:List Field→Nat→Option (List Jb)
 |[],_=>some []
 |f::fs,i=>match EY P f.type with
  |some k=>match Ns fs (i+1)with
   | some ks => if f.offset = i ∧ (f.name == "_") = false ∧ Bd P f.type = some 1 then some (k :: ks) else none
   |none=>none
  |none=>match Ace P f.type with
   |some js=>match Ns fs (i+js.length)with
    | some ks => if f.offset = i ∧ (f.name == "_") = false then some (js ++ ks) else none
    |none=>none
   |none=>none
def ZT (t:TypeId):Jb:=match P.underlying t with
 |some .bool=>.bool
 |some (.int _)=>.int
 |some .string=>.str
 |some (.slice _)=>.slice
 |some (.pointer _)=>.ptr
 |some (.func _ _ _)=>.func
 |some (.map _ _)=>.map
 |some (.struct fs)=>match Ns P fs.toList 0 with
  |some ks=>if P.eqGuardType P.depth t=false∧P.stoodInHeld t=false∧Bd P t=some ks.length then .flat ks else .other
  |none=>.other
 |_=>.other
def Nu (fs:List Field):List (Nat×Operand)→Option (List (Nat×Nat×AO))
 |[]=>some []
 |(i,x)::ps=>match nth fs i,Am x,Nu fs ps with
  |some f,some a,some r=>match Bd P f.type with
   |some n=>some ((f.offset,n,a)::r)
   |none=>none
  |_,_,_=>none
def Iu (es:Nat):List (Nat×Operand)→Option (List (Nat×Nat×AO))
 |[]=>some []
 |(i,x)::ps=>match Am x,Iu es ps with
  |some a,some r=>some ((i*es,es,a)::r)
  |_,_=>none
def Jv:List (Nat×Operand)→Option (List (Nat×AO))
 |[]=>some []
 |(i,x)::ps=>match Am x,Jv ps with
  |some a,some r=>some ((i,a)::r)
  |_,_=>none
def FB:Option Operand→Option (Option AO)
 |none=>some none
 |some x=>(Am x).map some
def isZero:Option Operand→Bool
 |some (.const (.int _ 0))=>true
 |_=>false
def W9 (m:Mode) (c:Call):Option BO:=
 match c.callee,BH c.args.toList with
 | .value (.func f),some args=>some (.call m f args)
 | .value (.tmp t),some args=>some (.GX m (.tmp t) args)
 | .builtin .len,some [x]=>match nth c.argTypes.toList 0 with
   |some t=>match P.underlying t with
    |some .string=>some (.len .str x)
    |some (.slice _)=>some (.len .slice x)
    |some (.map _ _)=>some (.len .map x)
    |_=>none
   |none=>none
 | .builtin .min,some [x,y]=>some (.min x y)
 | .builtin .max,some [x,y]=>some (.max x y)
 | .builtin .append,some [x,y]=>match c.argTypes.toList with
   |[t,t']=>match P.underlying t with
    |some (.slice e)=>match Ep P e,P.info? e with
     |some (es,_),some i=>if 0<i.bytes∧t=t' then some (.append es i.bytes x y)else none
     |_,_=>none
    |_=>none
   |_=>none
 | .builtin .clear,some [x]=>match c.argTypes.toList with
   |[t]=>match P.underlying t with
    |some (.slice e)=>match Ep P e with
     |some (es,_)=>some (.clear es x)
     |none=>none
    |_=>none
   |_=>none
 | .builtin .delete,some [m,k]=>match c.argTypes.toList with
   |t::_=>match P.underlying t with
    |some (.map kt _)=>(EY P kt).map fun l=>.delete l m k
    |_=>none
   |_=>none
 | .builtin .cap,some [x]=>match nth c.argTypes.toList 0 with
   |some t=>match P.underlying t with
    |some (.slice _)=>some (.len .func x)
    |_=>none
   |none=>none
 |_,_=>none
def AgK:Option FZ→Mode
 |some (.mode m)=>m
 |_=>.pure
def Jp (o:Oper) (ann:Option FZ):Option BO:=
 match o.op with
 | .move x=>(Am x).map .Yw
 | .assign x=>match ann with
   |some .own=>match x,P.underlying o.type with
    | .const (.slice none 0 0),some (.slice e)=>(Bd P e).map .Jq
    |_,_=>none
   |_=>(Am x).map .Yw
 | .pick c a b=>match Am c,Am a,Am b with
   |some c,some a,some b=>some (.pick c a b)
   |_,_,_=>none
 | .alloc t=>match ann with
   |some (.Af8 off e2)=>match Ep P t with
    |some (n,.agg cs)=>some (.JU off e2 n cs)
    |_=>none
   |_=>(Ep P t).map fun(n,z)=>.alloc n z
 | .box t x=>match Bd P t,Am x with
   |some n,some x=>some (.box n x)
   |_,_=>none
 | .build t parts=>match Ep P t with
   |some (_,.agg z)=>match P.underlying t with
    |some (.struct fs)=>if fs.toList.all (fun f=>(Bd P f.type).isSome)then(Nu P fs.toList parts.toList).map (.build z)else none
    |some (.array _ e)=>match Bd P e with
     |some es=>(Iu es parts.toList).map (.build z)
     |none=>none
    |_=>none
   |_=>none
 | .buildSlice t len parts=>match P.underlying t with
   |some (.slice e)=>match Ep P e,Jv parts.toList with
    |some (es,z),some ps=>if len*es≤16777216 then some (.lit (match ann with|some .own=>true|_=>false) es z len ps)else none
    |_,_=>none
   |_=>none
 | .load t a=>match szT P t,Am a with
   |some sz,some a=>some (.load sz a)
   |_,_=>none
 | .store t a x=>match Bd P t,Am a,Am x with
   |some n,some a,some x=>some (.store n a x)
   |_,_,_=>none
 | .nilCheck x=>(Am x).map .PG
 | .binOp op t x y _=>match Am x,Am y with
   |some x,some y=>some (.bin op (ZT P t) x y)
   |_,_=>none
 | .unOp op _ x=>(Am x).map (.un op)
 | .convert src dst x=>match P.underlying src,P.underlying dst,Am x with
   |some (.int _),some (.int k),some x=>some (.conv k x)
   |some .string,some .string,some x=>some (.convs x)
   |_,_,_=>none
 | .makeInterface t x=>match P.underlying t with
   |some (.interface _)=>none
   |some _=>(Am x).map (.AeG t)
   |none=>none
 | .makeFunc (.func f) fs caps=>if fs.size=0 then(BH caps.toList).map (.Acf f)else none
 | .makeMap _ none=>some .Oe
 | .makeSlice t l c=>match P.underlying t with
   |some (.slice e)=>match Ep P e,P.info? e,Am l,Am c with
    |some (es,z),some i,some l,some c=>if 0<i.bytes then some (.Hz es i.bytes z l c)else none
    |_,_,_,_=>none
   |_=>none
 | .slice t x lo hi mx=>match P.underlying t,Am x,mx with
   |some (.slice e),some x,none=>match Bd P e,FB lo,FB hi with
    |some es,some lo,some hi=>some (.slice es x lo hi)
    |_,_,_=>none
   |some .string,some x,none=>match FB lo,FB hi with
    |some lo,some hi=>some (.KR x lo hi)
    |_,_=>none
   |some (.slice e),some x,some mx=>if(lo.isNone||isZero lo)&&isZero hi&&isZero (some mx)&&(Bd P e).isSome then some (.Rz x)else none
   |_,_,_=>none
 | .fieldAddr t x f=>match P.underlying t,Am x with
   |some (.struct fs),some x=>match nth fs.toList f with
    |some fd=>(Bd P fd.type).map fun _=>.Qh fd.offset x
    |none=>none
   |_,_=>none
 | .field t x f=>match P.underlying t,Am x with
   |some (.struct fs),some x=>match nth fs.toList f with
    |some fd=>(szT P fd.type).map fun sz=>.field fd.offset sz x
    |none=>none
   |_,_=>none
 | .indexAddr t x i=>match P.underlying t,Am x,Am i with
   |some (.slice e),some x,some i=>(Bd P e).map fun es=>.RD es x i
   |some (.array n e),some x,some i=>(Bd P e).map fun es=>.Xa es n x i
   |_,_,_=>none
 | .index t x i=>match P.underlying t,Am x,Am i with
   |some .string,some x,some i=>some (.YB x i)
   |some (.array n e),some x,some i=>match Bd P e,szT P e with
    |some es,some sz=>some (.Acg es n sz x i)
    |_,_=>none
   |_,_,_=>none
 | .lookup t m k QT=>match P.underlying t,Am m,Am k with
   |some (.map kt e),some m,some k=>match EY P kt,Ep P e with
    |some l,some (_,z)=>some (.lookup l z QT m k)
    |_,_=>none
   |_,_,_=>none
 | .mapUpdate t m k v| .insert t m k v=>match P.underlying t,Am m,Am k,Am v with
   |some (.map kt _),some m,some k,some v=>(EY P kt).map fun l=>.mapset l m k v
   |_,_,_,_=>none
 | .extract x i=>(Am x).map fun x=>.ext x i
 | .panic x=>(Am x).map .panic
 | .call c=>W9 P (AgK ann) c
 |_=>none
def Ej (ops:Array Oper) (n:Nat):Option (Nat×Bool)→Option (Option (Nat×Bool))
 |none=>some none
 |some (j,b)=>match(ops[j]?).bind (·.dst)with
  |some t=>if t<n then some (some (t,b))else none
  |none=>none
def ZU (n:Nat):Option Nat→Bool
 |some d=>decide (d<n)
 |none=>true
def Ci (ops:Array Oper) (n:Nat) (an:List (Nat×FZ)):List Oper→Nat→Option (List AA)
 |[],_=>some []
 |o::os,i=>match Jp P o (Ry an i),Ej ops n o.guard,Ci ops n an os (i+1)with
  |some ao,some g,some r=>if ZU n o.dst then some (⟨o.dst,ao,g⟩::r)else none
  |_,_,_=>none
def AO.slots:AO→List Nat
 | .tmp t=>[t]
 | .cst _=>[]
def slotsOf (o:AA):List Nat:=
 o.dst.toList++o.op.BD.flatMap AO.slots++(match o.guard with|some (t,_)=>[t]|none=>[])
def Vz (ops:Array Oper) (BD:List AA) (m:Nat):Bool:=
 let b:=Region.before ops
 (List.range ops.size).all fun j=>match ops[j]?,BD[j]? with
    |some o,some ao=>
     (o.after.toList.all fun e=>!Region.binds .any e||decide (e.on<j))&&
     ((List.range ops.size).all fun i=>i==j||match(ops[i]?).bind (·.dst)with
       |some t=>!(slotsOf ao).contains t||(if i<j then(b.getD j 0).testBit i else(b.getD i 0).testBit j)
       |none=>true)&&
     (decide (j<m)||(List.range j).all fun i=>(b.getD j 0).testBit i)
    |_,_=>false
def VA (ops:Array Oper) (BD:List AA) (m f:Nat):Bool:=
 let b:=Region.before ops
 (List.range ops.size).all fun j=>match ops[j]?,BD[j]? with
    |some o,some ao=>
     (o.after.toList.all fun e=>!Region.binds .any e||decide (e.on<j))&&
     ((List.range ops.size).all fun i=>i==j||match(ops[i]?).bind (·.dst)with
       |some t=>!(slotsOf ao).contains t||(if i<j then(b.getD j 0).testBit i else(b.getD i 0).testBit j)
       |none=>true)&&
     (decide (j<m)||(List.range j).all fun i=>i==f||(b.getD j 0).testBit i)
    |_,_=>false
def DI (m:Nat) (os:List AA):Bool:=(os.take m).all fun o=>o.op.E5
def JV (o:AA):Nat:=match o.op.cls with
 |some .e=>0
 |some .r=>1
 |some .w=>2
 |some .a=>3
 |none=>4
def AeH (m:Nat) (os:List AA):Bool:=(os.take m).all fun o=>JV o != 4
def QU (ops:Array Oper) (os:List AA) (m:Nat):List (Nat×Nat):=
 let b:=Region.before ops
 (List.range m).flatMap fun j=>((List.range j).filter fun i=>match os[i]?,os[j]? with
    |some oi,some oj=>!(b.getD j 0).testBit i&&JV oi != 0&&JV oj != 0&&(JV oi != 1||JV oj != 1)
    |_,_=>false).map fun i=>(i,j)
def Jc:Code→Nat
 | .region id _ _=>id
 | .seq a _=>Jc a
 | .cond _ a _=>Jc a
 | .block _ a=>Jc a
 | .loop a=>Jc a
 |_=>0
def Xb (ops:Array Oper) (BD:List AA) (m:Nat) (W pc:List Nat):Bool:=
 let b:=Region.before ops
 (match pc with
 |p::E=>(E.all fun i=>!Dw i W)&&(List.range ops.size).all fun j=>decide (j≤p)||Dw j E||(b.getD j 0).testBit p
 |[]=>true)&&
 (List.range ops.size).all fun j=>match ops[j]?,BD[j]? with
    |some o,some ao=>
     (o.after.toList.all fun e=>!Region.binds .any e||decide (e.on<j))&&
     ((List.range ops.size).all fun i=>i==j||match(ops[i]?).bind (·.dst)with
       |some t=>!(slotsOf ao).contains t||(if i<j then(b.getD j 0).testBit i else(b.getD i 0).testBit j)
       |none=>true)&&
     (decide (j<m)||flt ao||Dw j W||(List.range j).all fun i=>(match BD[i]? with|some ai=>flt ai|none=>false)||Dw i W||(b.getD j 0).testBit i)
    |_,_=>false
def KT:AQ:=.cond (.cst (.int .i64 0)) .skip .skip
def Iw (l:Jb) (d1 d2 m k x:Nat):List AA:=[⟨some d1,.Yw (.cst .junk),none⟩,⟨some d2,.Yw (.cst .junk),none⟩,⟨none,.mapset l (.tmp m) (.tmp k) (.tmp x),none⟩]
def RF (ops:Array Oper) (m:Nat):Option (TypeId×Nat×Nat×Nat×Nat×Nat):=
 match ops[m]?,ops[m+1]?,ops[m+2]? with
 |some o1,some o2,some o3=>match o1.op,o1.dst,o1.guard,o2.op,o2.dst,o2.guard with
  | .mapEntry t (.tmp tm) (.tmp tk),some d1,none,.extract (.tmp e1) 1,some d2,none=>match o3.op,o3.dst,o3.guard with
    | .entryStore _ (.tmp tm') (.tmp e2) (.tmp tx),none,none=>
      if e1=d1∧e2=d2∧tm'=tm∧d1≠d2∧(tm≠d1∧tm≠d2)∧(tk≠d1∧tk≠d2)∧(tx≠d1∧tx≠d2)∧tm≠tx∧tk≠tx then some (t,d1,d2,tm,tk,tx)else none
    |_,_,_=>none
  |_,_,_,_,_,_=>none
 |_,_,_=>none
def QV (ops:Array Oper) (m tx d1 d2:Nat):Option (Nat×Nat):=
 match(List.range m).find? fun i=>(ops[i]?).bind (·.dst)==some tx with
 |some f=>match ops[f]? with
  |some o=>match o.op,o.guard with
   | .move (.tmp ty),none=>if o.dst=some tx∧ty≠d1∧ty≠d2∧f<m∧((Region.before ops).getD (m+2) 0).testBit f=true then some (f,ty)else none
   |_,_=>none
  |none=>none
 |none=>none
def Af9 (ops:Array Oper) (BD:List AA) (m:Nat):Bool:=match RF ops m with
 |some (_,d1,d2,_,_,tx)=>match QV ops m tx d1 d2 with
  |some (f,_)=>VA ops BD m f&&DI m BD
  |none=>false
 |none=>false
def ZW (n:Nat) (an:List (Nat×FZ)) (ops:Array Oper) (m:Nat):Option (List AA):=
 match RF ops m with
 |some (t,d1,d2,tm,tk,tx)=>match P.underlying t with
  |some (.map kt e)=>match EY P kt,Ep P e,Ci P ops n an (ops.toList.take m) 0,Ci P ops n an (ops.toList.drop (m+3)) (m+3)with
   |some l,some _,some hd,some tl=>if d1<n∧d2<n then some (hd++(Iw l d1 d2 tm tk tx++tl))else none
   |_,_,_,_=>none
  |_=>none
 |none=>none
def BI (n:Nat) (an:List ED):Code→Option AQ
 | .skip=>some .skip
 | .region id ops draw=>
   let a:=D6 an id
   match Ci P ops n a.ops ops.toList 0 with
   |some os=>if draw then
     let m:=a.head.getD os.length
     if a.par then
          if Vz ops os m&&AeH m os&&decide (m≤ops.size)then some (.par m (QU ops os m) a.JQ os a.live a.trunc)else none
     else if a.mix then
          if Xb ops os m a.wob a.pc&&DI m os then some (.mix m a.wob a.pc a.JQ os a.live a.trunc)else none
     else if Vz ops os m&&DI m os then some (.region (some m) a.JQ os a.live a.trunc)else none
    else some (.region none a.JQ os a.live a.trunc)
   |none=>match a.head with
    |some m=>match ZW P n a.ops ops m with
     |some os=>if draw&&Af9 ops os m then some (.region (some m) a.JQ os a.live a.trunc)else some KT
     |none=>some KT
    |none=>some KT
 | .seq x y=>match BI n an x,BI n an y with
   |some a,some b=>some (.seq a b)
   |_,_=>none
 | .cond c x y=>match Am c,BI n an x,BI n an y with
   |some c,some a,some b=>some (.cond c a b)
   |_,_,_=>none
 | .block id x=>(BI n an x).map (.block id)
 | .loop x=>(BI n an x).map (.loop (D6 an (Jc x)).hdr)
 | .exit id=>some (.exit id)
 | .ret=>some .ret
 |_=>some KT
def Es (n:Nat):List ResultVar→Option (List Ul)
 |[]=>some []
 | .tmp t::rs=>if t<n then(Es n rs).map (.tmp t::·)else none
 | .cell a t::rs=>match szT P t,Es n rs with
   |some sz,some r=>some (.cell a sz::r)
   |_,_=>none
def MS (an:List ED) (f:Func):Option FK:=
 match f.body with
 |some b=>match BI P f.ntmps an b,Es P f.ntmps f.results.toList with
  |some c,some rs=>if f.params.size+f.nfree≤f.ntmps then some ⟨f.params.size+f.nfree,c,rs⟩else none
  |_,_=>none
 |none=>none
def Iy:List AA→Nat→List (Nat×FZ)
 |[],_=>[]
 |o::os,i=>match o.op with
  | .call .pure _ _=>Iy os (i+1)
  | .call m _ _=>(i,.mode m)::Iy os (i+1)
  | .GX .pure _ _=>Iy os (i+1)
  | .GX m _ _=>(i,.mode m)::Iy os (i+1)
  | .Jq _=>(i,.own)::Iy os (i+1)
  | .lit true _ _ _ _=>(i,.own)::Iy os (i+1)
  | .JU off e2 _ _=>(i,.Af8 off e2)::Iy os (i+1)
  |_=>Iy os (i+1)
def Ach (i:Nat) (l:List Nat):List ED→List ED
 |[]=>[]
 |a::r=>if a.id=i then{a with hdr:=l}::r else a::Ach i l r
def anZ:Code→AQ→List ED
 | .region id _ _,.region h JQ ops live tr=>[{id:=id,head:=h,JQ:=JQ,live:=live,trunc:=tr,ops:=Iy ops 0}]
 | .region id _ _,.par m _ JQ ops live tr=>[{id:=id,head:=some m,JQ:=JQ,live:=live,trunc:=tr,ops:=Iy ops 0,par:=true}]
 | .region id _ _,.mix m W pc JQ ops live tr=>[{id:=id,wob:=W,pc:=pc,head:=some m,JQ:=JQ,live:=live,trunc:=tr,ops:=Iy ops 0,mix:=true}]
 | .seq a b,.seq x y=>anZ a x++anZ b y
 | .cond _ a b,.cond _ x y=>anZ a x++anZ b y
 | .block _ a,.block _ x=>anZ a x
 | .loop a,.loop live x=>Ach (Jc a) live (anZ a x)
 |_,_=>[]
def anF (f:Func) (a:FK):List ED:=match f.body with
 |some b=>anZ b a.body
 |none=>[]
def cok (f:Func) (a:FK):Option FK:=MS P (anF f a) f
end AI
end Go.Proofs.YtchcadfjbkkgmaaGreatDoor
