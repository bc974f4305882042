/- From the model's code to the abstract interpreter's: the types' tables are looked up once, the places of variables are marked as told. -/
import Derived.Test.YtchcadfjbkkgmaaGreatDoorDCore
namespace Go.Proofs.YtchcadfjbkkgmaaGreatDoor
namespace AI
inductive F7 where
 |own
 |Ag4 (off es:Nat)
 |mode (m:Mode)
 deriving Inhabited
structure EJ where
 id:Nat
 head:Option Nat:=none
 JW:List Nat:=[]
 live:List Nat:=[]
 trunc:Option Nat:=none
 ops:List (Nat×F7):=[]
 hdr:List Nat:=[]
 par:Bool:=false
 mix:Bool:=false
 wob:List Nat:=[]
 pc:List Nat:=[]
 deriving Inhabited
def Ti:List (Nat×F7)→Nat→Option F7
 |[],_=>none
 |(j,a)::r,i=>if i=j then some a else Ti r i
def Ea:List EJ→Nat→EJ
 |[],i=>{id:=i}
 |a::r,i=>if a.id=i then a else Ea r i
def Ov:Value→Option AV
 | .bool b=>some (.bool b)
 | .int k n=>some (.int k n)
 | .string s=>some (.str s.data.toList)
 | .slice none 0 0=>some (.sl false [])
 | .pointer none=>some .Ja
 | .map none=>some .CJ
 | .nilFunc=>some .Fj
 | .nilIface=>some .Gu
 | .func (.func f) fs cs=>if fs.size=0∧cs.size=0 then some (.fn f [])else none
 |_=>none
def ofValues:List Value→Option (List AV)
 |[]=>some []
 |v::vs=>match Ov v,ofValues vs with
  |some a,some b=>some (a::b)
  |_,_=>none
def ofValue:Value→Option AV
 | .agg cs=>(ofValues cs.toList).map .agg
 |v=>Ov v
def Aq:Operand→Option AO
 | .tmp t=>some (.tmp t)
 | .const v=>(ofValue v).map .cst
 | .func f=>some (.cst (.fn f []))
 | .global _=>none
def BH:List Operand→Option (List AO)
 |[]=>some []
 |v::vs=>match Aq v,BH vs with
  |some a,some b=>some (a::b)
  |_,_=>none
variable (P:Program)
def V5 (t:TypeId):Bool:=match P.underlying t with
 |some (.struct _)|some (.array _ _)=>true
 |_=>false
def Bh (t:TypeId):Option Nat:=match P.info? t with
 |some i=>if 0<i.size then some i.size else none
 |none=>none
def szT (t:TypeId):Option (Option Nat):=match P.underlying t,Bh P t with
 |some (.struct _),some n=>some (some n)
 |some (.array _ _),some n=>some (some n)
 |some _,some 1=>some none
 |_,_=>none
def Eu (t:TypeId):Option (Nat×AV):=match P.info? t,Bh P t with
 |some i,some n=>match i.zero with
  |some z=>match ofValue z with
   |some v=>if v.cells.length=n then some (n,v)else none
   |none=>none
  |none=>none
 |_,_=>none
def E8 (t:TypeId):Option I9:=match P.underlying t with
 |some .bool=>some .bool
 |some (.int _)=>some .int
 |some .string=>some .str
 |_=>none
def UZ:List Field→Nat→Option (List I9)
 |[],_=>some []
 |f::fs,i=>match E8 P f.type,UZ fs (i+1)with
  | some k, some ks => if f.offset = i ∧ (f.name == "_") = false ∧ Bh P f.type = some 1 then some (k :: ks) else none
  |_,_=>none
def AcY (t:TypeId):Option (List I9):=match P.underlying t with
 |some (.struct gs)=>match UZ P gs.toList 0 with
  |some ks=>if P.stoodInHeld t=false∧Bh P t=some ks.length then some ks else none
  |none=>none
 |_=>none
def NJ:List Field→Nat→Option (List I9)
 |[],_=>some []
 |f::fs,i=>match E8 P f.type with
  |some k=>match NJ fs (i+1)with
   | some ks => if f.offset = i ∧ (f.name == "_") = false ∧ Bh P f.type = some 1 then some (k :: ks) else none
   |none=>none
  |none=>match AcY P f.type with
   |some js=>match NJ fs (i+js.length)with
    | some ks => if f.offset = i ∧ (f.name == "_") = false then some (js ++ ks) else none
    |none=>none
   |none=>none
def eqT (t:TypeId):I9:=match P.underlying t with
 |some .bool=>.bool
 |some (.int _)=>.int
 |some .string=>.str
 |some (.slice _)=>.slice
 |some (.pointer _)=>.ptr
 |some (.func _ _ _)=>.func
 |some (.map _ _)=>.map
 |some (.struct fs)=>match NJ P fs.toList 0 with
  |some ks=>if P.eqGuardType P.depth t=false∧P.stoodInHeld t=false∧Bh P t=some ks.length then .flat ks else .other
  |none=>.other
 |_=>.other
def NC (fs:List Field):List (Nat×Operand)→Option (List (Nat×Nat×AO))
 |[]=>some []
 |(i,x)::ps=>match nth fs i,Aq x,NC fs ps with
  |some f,some a,some r=>match Bh P f.type with
   |some n=>some ((f.offset,n,a)::r)
   |none=>none
  |_,_,_=>none
def Iy (es:Nat):List (Nat×Operand)→Option (List (Nat×Nat×AO))
 |[]=>some []
 |(i,x)::ps=>match Aq x,Iy es ps with
  |some a,some r=>some ((i*es,es,a)::r)
  |_,_=>none
def JU:List (Nat×Operand)→Option (List (Nat×AO))
 |[]=>some []
 |(i,x)::ps=>match Aq x,JU ps with
  |some a,some r=>some ((i,a)::r)
  |_,_=>none
def FI:Option Operand→Option (Option AO)
 |none=>some none
 |some x=>(Aq x).map some
def isZero:Option Operand→Bool
 |some (.const (.int _ 0))=>true
 |_=>false
def Xr (m:Mode) (c:Call):Option BP:=
 match c.callee,BH c.args.toList with
 | .value (.func f),some args=>some (.call m f args)
 | .value (.tmp t),some args=>some (.G6 m (.tmp t) args)
 | .builtin .len,some [x]=>match nth c.argTypes.toList 0 with
   |some t=>match P.underlying t with
    |some .string=>some (.len .str x)
    |some (.slice _)=>some (.len .slice x)
    |some (.map _ _)=>some (.len .map x)
    |_=>none
   |none=>none
 | .builtin .min,some [x,y]=>some (.min x y)
 | .builtin .max,some [x,y]=>some (.max x y)
 | .builtin .append,some [x,y]=>match c.argTypes.toList with
   |[t,t']=>match P.underlying t with
    |some (.slice e)=>match Eu P e,P.info? e with
     |some (es,_),some i=>if 0<i.bytes∧t=t' then some (.append es i.bytes x y)else none
     |_,_=>none
    |_=>none
   |_=>none
 | .builtin .clear,some [x]=>match c.argTypes.toList with
   |[t]=>match P.underlying t with
    |some (.slice e)=>match Eu P e with
     |some (es,_)=>some (.clear es x)
     |none=>none
    |_=>none
   |_=>none
 | .builtin .delete,some [m,k]=>match c.argTypes.toList with
   |t::_=>match P.underlying t with
    |some (.map kt _)=>(E8 P kt).map fun l=>.delete l m k
    |_=>none
   |_=>none
 | .builtin .cap,some [x]=>match nth c.argTypes.toList 0 with
   |some t=>match P.underlying t with
    |some (.slice _)=>some (.len .func x)
    |_=>none
   |none=>none
 |_,_=>none
def AiA:Option F7→Mode
 |some (.mode m)=>m
 |_=>.pure
def Jt (o:Oper) (ann:Option F7):Option BP:=
 match o.op with
 | .move x=>(Aq x).map .YH
 | .assign x=>match ann with
   |some .own=>match x,P.underlying o.type with
    | .const (.slice none 0 0),some (.slice e)=>(Bh P e).map .Jw
    |_,_=>none
   |_=>(Aq x).map .YH
 | .pick c a b=>match Aq c,Aq a,Aq b with
   |some c,some a,some b=>some (.pick c a b)
   |_,_,_=>none
 | .alloc t=>match ann with
   |some (.Ag4 off e2)=>match Eu P t with
    |some (n,.agg cs)=>some (.Kz off e2 n cs)
    |_=>none
   |_=>(Eu P t).map fun(n,z)=>.alloc n z
 | .box t x=>match Bh P t,Aq x with
   |some n,some x=>some (.box n x)
   |_,_=>none
 | .build t parts=>match Eu P t with
   |some (_,.agg z)=>match P.underlying t with
    |some (.struct fs)=>if fs.toList.all (fun f=>(Bh P f.type).isSome)then(NC P fs.toList parts.toList).map (.build z)else none
    |some (.array _ e)=>match Bh P e with
     |some es=>(Iy es parts.toList).map (.build z)
     |none=>none
    |_=>none
   |_=>none
 | .buildSlice t len parts=>match P.underlying t with
   |some (.slice e)=>match Eu P e,JU parts.toList with
    |some (es,z),some ps=>if len*es≤16777216 then some (.lit (match ann with|some .own=>true|_=>false) es z len ps)else none
    |_,_=>none
   |_=>none
 | .load t a=>match szT P t,Aq a with
   |some sz,some a=>some (.load sz a)
   |_,_=>none
 | .store t a x=>match Bh P t,Aq a,Aq x with
   |some n,some a,some x=>some (.store n a x)
   |_,_,_=>none
 | .nilCheck x=>(Aq x).map .Qh
 | .binOp op t x y _=>match Aq x,Aq y with
   |some x,some y=>some (.bin op (eqT P t) x y)
   |_,_=>none
 | .unOp op _ x=>(Aq x).map (.un op)
 | .convert src dst x=>match P.underlying src,P.underlying dst,Aq x with
   |some (.int _),some (.int k),some x=>some (.conv k x)
   |some .string,some .string,some x=>some (.convs x)
   |_,_,_=>none
 | .makeInterface t x=>match P.underlying t with
   |some (.interface _)=>none
   |some _=>(Aq x).map (.Af9 t)
   |none=>none
 | .makeFunc (.func f) fs caps=>if fs.size=0 then(BH caps.toList).map (.AdF f)else none
 | .makeMap _ none=>some .Oj
 | .makeSlice t l c=>match P.underlying t with
   |some (.slice e)=>match Eu P e,P.info? e,Aq l,Aq c with
    |some (es,z),some i,some l,some c=>if 0<i.bytes then some (.Ii es i.bytes z l c)else none
    |_,_,_,_=>none
   |_=>none
 | .slice t x lo hi mx=>match P.underlying t,Aq x,mx with
   |some (.slice e),some x,none=>match Bh P e,FI lo,FI hi with
    |some es,some lo,some hi=>some (.slice es x lo hi)
    |_,_,_=>none
   |some .string,some x,none=>match FI lo,FI hi with
    |some lo,some hi=>some (.Lr x lo hi)
    |_,_=>none
   |some (.slice e),some x,some mx=>if(lo.isNone||isZero lo)&&isZero hi&&isZero (some mx)&&(Bh P e).isSome then some (.Uf x)else none
   |_,_,_=>none
 | .fieldAddr t x f=>match P.underlying t,Aq x with
   |some (.struct fs),some x=>match nth fs.toList f with
    |some fd=>(Bh P fd.type).map fun _=>.Qq fd.offset x
    |none=>none
   |_,_=>none
 | .field t x f=>match P.underlying t,Aq x with
   |some (.struct fs),some x=>match nth fs.toList f with
    |some fd=>(szT P fd.type).map fun sz=>.field fd.offset sz x
    |none=>none
   |_,_=>none
 | .indexAddr t x i=>match P.underlying t,Aq x,Aq i with
   |some (.slice e),some x,some i=>(Bh P e).map fun es=>.SC es x i
   |some (.array n e),some x,some i=>(Bh P e).map fun es=>.Xw es n x i
   |_,_,_=>none
 | .index t x i=>match P.underlying t,Aq x,Aq i with
   |some .string,some x,some i=>some (.Y8 x i)
   |some (.array n e),some x,some i=>match Bh P e,szT P e with
    |some es,some sz=>some (.Ac1 es n sz x i)
    |_,_=>none
   |_,_,_=>none
 | .lookup t m k QZ=>match P.underlying t,Aq m,Aq k with
   |some (.map kt e),some m,some k=>match E8 P kt,Eu P e with
    |some l,some (_,z)=>some (.lookup l z QZ m k)
    |_,_=>none
   |_,_,_=>none
 | .mapUpdate t m k v| .insert t m k v=>match P.underlying t,Aq m,Aq k,Aq v with
   |some (.map kt _),some m,some k,some v=>(E8 P kt).map fun l=>.mapset l m k v
   |_,_,_,_=>none
 | .extract x i=>(Aq x).map fun x=>.ext x i
 | .panic x=>(Aq x).map .panic
 | .call c=>Xr P (AiA ann) c
 |_=>none
def Em (ops:Array Oper) (n:Nat):Option (Nat×Bool)→Option (Option (Nat×Bool))
 |none=>some none
 |some (j,b)=>match(ops[j]?).bind (·.dst)with
  |some t=>if t<n then some (some (t,b))else none
  |none=>none
def AaB (n:Nat):Option Nat→Bool
 |some d=>decide (d<n)
 |none=>true
def Cj (ops:Array Oper) (n:Nat) (an:List (Nat×F7)):List Oper→Nat→Option (List Az)
 |[],_=>some []
 |o::os,i=>match Jt P o (Ti an i),Em ops n o.guard,Cj ops n an os (i+1)with
  |some ao,some g,some r=>if AaB n o.dst then some (⟨o.dst,ao,g⟩::r)else none
  |_,_,_=>none
def AO.slots:AO→List Nat
 | .tmp t=>[t]
 | .cst _=>[]
def slotsOf (o:Az):List Nat:=
 o.dst.toList++o.op.BD.flatMap AO.slots++(match o.guard with|some (t,_)=>[t]|none=>[])
def Wp (ops:Array Oper) (BD:List Az) (m:Nat):Bool:=
 let b:=Region.before ops
 (List.range ops.size).all fun j=>match ops[j]?,BD[j]? with
    |some o,some ao=>
     (o.after.toList.all fun e=>!Region.binds .any e||decide (e.on<j))&&
     ((List.range ops.size).all fun i=>i==j||match(ops[i]?).bind (·.dst)with
       |some t=>!(slotsOf ao).contains t||(if i<j then(b.getD j 0).testBit i else(b.getD i 0).testBit j)
       |none=>true)&&
     (decide (j<m)||(List.range j).all fun i=>(b.getD j 0).testBit i)
    |_,_=>false
def Ws (ops:Array Oper) (BD:List Az) (m f:Nat):Bool:=
 let b:=Region.before ops
 (List.range ops.size).all fun j=>match ops[j]?,BD[j]? with
    |some o,some ao=>
     (o.after.toList.all fun e=>!Region.binds .any e||decide (e.on<j))&&
     ((List.range ops.size).all fun i=>i==j||match(ops[i]?).bind (·.dst)with
       |some t=>!(slotsOf ao).contains t||(if i<j then(b.getD j 0).testBit i else(b.getD i 0).testBit j)
       |none=>true)&&
     (decide (j<m)||(List.range j).all fun i=>i==f||(b.getD j 0).testBit i)
    |_,_=>false
def DT (m:Nat) (os:List Az):Bool:=(os.take m).all fun o=>o.op.Fh
def Kq (o:Az):Nat:=match o.op.cls with
 |some .e=>0
 |some .r=>1
 |some .w=>2
 |some .a=>3
 |none=>4
def Ago (m:Nat) (os:List Az):Bool:=(os.take m).all fun o=>Kq o != 4
def Rk (ops:Array Oper) (os:List Az) (m:Nat):List (Nat×Nat):=
 let b:=Region.before ops
 (List.range m).flatMap fun j=>((List.range j).filter fun i=>match os[i]?,os[j]? with
    |some oi,some oj=>!(b.getD j 0).testBit i&&Kq oi != 0&&Kq oj != 0&&(Kq oi != 1||Kq oj != 1)
    |_,_=>false).map fun i=>(i,j)
def Jl:Code→Nat
 | .region id _ _=>id
 | .seq a _=>Jl a
 | .cond _ a _=>Jl a
 | .block _ a=>Jl a
 | .loop a=>Jl a
 |_=>0
def XY (ops:Array Oper) (BD:List Az) (m:Nat) (W pc:List Nat):Bool:=
 let b:=Region.before ops
 (match pc with
 |p::E=>(E.all fun i=>!Dw i W)&&(List.range ops.size).all fun j=>decide (j≤p)||Dw j E||(b.getD j 0).testBit p
 |[]=>true)&&
 (List.range ops.size).all fun j=>match ops[j]?,BD[j]? with
    |some o,some ao=>
     (o.after.toList.all fun e=>!Region.binds .any e||decide (e.on<j))&&
     ((List.range ops.size).all fun i=>i==j||match(ops[i]?).bind (·.dst)with
       |some t=>!(slotsOf ao).contains t||(if i<j then(b.getD j 0).testBit i else(b.getD i 0).testBit j)
       |none=>true)&&
     (decide (j<m)||flt ao||Dw j W||(List.range j).all fun i=>(match BD[i]? with|some ai=>flt ai|none=>false)||Dw i W||(b.getD j 0).testBit i)
    |_,_=>false
def LH:AQ:=.cond (.cst (.int .i64 0)) .skip .skip
def IQ (l:I9) (d1 d2 m k x:Nat):List Az:=[⟨some d1,.YH (.cst .junk),none⟩,⟨some d2,.YH (.cst .junk),none⟩,⟨none,.mapset l (.tmp m) (.tmp k) (.tmp x),none⟩]
def Tq (ops:Array Oper) (m:Nat):Option (TypeId×Nat×Nat×Nat×Nat×Nat):=
 match ops[m]?,ops[m+1]?,ops[m+2]? with
 |some o1,some o2,some o3=>match o1.op,o1.dst,o1.guard,o2.op,o2.dst,o2.guard with
  | .mapEntry t (.tmp tm) (.tmp tk),some d1,none,.extract (.tmp e1) 1,some d2,none=>match o3.op,o3.dst,o3.guard with
    | .entryStore _ (.tmp tm') (.tmp e2) (.tmp tx),none,none=>
      if e1=d1∧e2=d2∧tm'=tm∧d1≠d2∧(tm≠d1∧tm≠d2)∧(tk≠d1∧tk≠d2)∧(tx≠d1∧tx≠d2)∧tm≠tx∧tk≠tx then some (t,d1,d2,tm,tk,tx)else none
    |_,_,_=>none
  |_,_,_,_,_,_=>none
 |_,_,_=>none
def Rj (ops:Array Oper) (m tx d1 d2:Nat):Option (Nat×Nat):=
 match(List.range m).find? fun i=>(ops[i]?).bind (·.dst)==some tx with
 |some f=>match ops[f]? with
  |some o=>match o.op,o.guard with
   | .move (.tmp ty),none=>if o.dst=some tx∧ty≠d1∧ty≠d2∧f<m∧((Region.before ops).getD (m+2) 0).testBit f=true then some (f,ty)else none
   |_,_=>none
  |none=>none
 |none=>none
def AgN (ops:Array Oper) (BD:List Az) (m:Nat):Bool:=match Tq ops m with
 |some (_,d1,d2,_,_,tx)=>match Rj ops m tx d1 d2 with
  |some (f,_)=>Ws ops BD m f&&DT m BD
  |none=>false
 |none=>false
def AaF (n:Nat) (an:List (Nat×F7)) (ops:Array Oper) (m:Nat):Option (List Az):=
 match Tq ops m with
 |some (t,d1,d2,tm,tk,tx)=>match P.underlying t with
  |some (.map kt e)=>match E8 P kt,Eu P e,Cj P ops n an (ops.toList.take m) 0,Cj P ops n an (ops.toList.drop (m+3)) (m+3)with
   |some l,some _,some hd,some tl=>if d1<n∧d2<n then some (hd++(IQ l d1 d2 tm tk tx++tl))else none
   |_,_,_,_=>none
  |_=>none
 |none=>none
def BI (n:Nat) (an:List EJ):Code→Option AQ
 | .skip=>some .skip
 | .region id ops draw=>
   let a:=Ea an id
   match Cj P ops n a.ops ops.toList 0 with
   |some os=>if draw then
     let m:=a.head.getD os.length
     if a.par then
          if Wp ops os m&&Ago m os&&decide (m≤ops.size)then some (.par m (Rk ops os m) a.JW os a.live a.trunc)else none
     else if a.mix then
          if XY ops os m a.wob a.pc&&DT m os then some (.mix m a.wob a.pc a.JW os a.live a.trunc)else none
     else if Wp ops os m&&DT m os then some (.region (some m) a.JW os a.live a.trunc)else none
    else some (.region none a.JW os a.live a.trunc)
   |none=>match a.head with
    |some m=>match AaF P n a.ops ops m with
     |some os=>if draw&&AgN ops os m then some (.region (some m) a.JW os a.live a.trunc)else some LH
     |none=>some LH
    |none=>some LH
 | .seq x y=>match BI n an x,BI n an y with
   |some a,some b=>some (.seq a b)
   |_,_=>none
 | .cond c x y=>match Aq c,BI n an x,BI n an y with
   |some c,some a,some b=>some (.cond c a b)
   |_,_,_=>none
 | .block id x=>(BI n an x).map (.block id)
 | .loop x=>(BI n an x).map (.loop (Ea an (Jl x)).hdr)
 | .exit id=>some (.exit id)
 | .ret=>some .ret
 |_=>some LH
def EC (n:Nat):List ResultVar→Option (List UF)
 |[]=>some []
 | .tmp t::rs=>if t<n then(EC n rs).map (.tmp t::·)else none
 | .cell a t::rs=>match szT P t,EC n rs with
   |some sz,some r=>some (.cell a sz::r)
   |_,_=>none
def Np (an:List EJ) (f:Func):Option FQ:=
 match f.body with
 |some b=>match BI P f.ntmps an b,EC P f.ntmps f.results.toList with
  |some c,some rs=>if f.params.size+f.nfree≤f.ntmps then some ⟨f.params.size+f.nfree,c,rs⟩else none
  |_,_=>none
 |none=>none
def I8:List Az→Nat→List (Nat×F7)
 |[],_=>[]
 |o::os,i=>match o.op with
  | .call .pure _ _=>I8 os (i+1)
  | .call m _ _=>(i,.mode m)::I8 os (i+1)
  | .G6 .pure _ _=>I8 os (i+1)
  | .G6 m _ _=>(i,.mode m)::I8 os (i+1)
  | .Jw _=>(i,.own)::I8 os (i+1)
  | .lit true _ _ _ _=>(i,.own)::I8 os (i+1)
  | .Kz off e2 _ _=>(i,.Ag4 off e2)::I8 os (i+1)
  |_=>I8 os (i+1)
def AeM (i:Nat) (l:List Nat):List EJ→List EJ
 |[]=>[]
 |a::r=>if a.id=i then{a with hdr:=l}::r else a::AeM i l r
def anZ:Code→AQ→List EJ
 | .region id _ _,.region h JW ops live tr=>[{id:=id,head:=h,JW:=JW,live:=live,trunc:=tr,ops:=I8 ops 0}]
 | .region id _ _,.par m _ JW ops live tr=>[{id:=id,head:=some m,JW:=JW,live:=live,trunc:=tr,ops:=I8 ops 0,par:=true}]
 | .region id _ _,.mix m W pc JW ops live tr=>[{id:=id,wob:=W,pc:=pc,head:=some m,JW:=JW,live:=live,trunc:=tr,ops:=I8 ops 0,mix:=true}]
 | .seq a b,.seq x y=>anZ a x++anZ b y
 | .cond _ a b,.cond _ x y=>anZ a x++anZ b y
 | .block _ a,.block _ x=>anZ a x
 | .loop a,.loop live x=>AeM (Jl a) live (anZ a x)
 |_,_=>[]
def anF (f:Func) (a:FQ):List EJ:=match f.body with
 |some b=>anZ b a.body
 |none=>[]
def cok (f:Func) (a:FQ):Option FQ:=Np P (anF f a) f
end AI
end Go.Proofs.YtchcadfjbkkgmaaGreatDoor
