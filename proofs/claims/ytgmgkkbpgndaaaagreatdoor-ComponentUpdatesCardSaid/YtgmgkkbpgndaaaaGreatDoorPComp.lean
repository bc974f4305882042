/- From the model's code to the abstract interpreter's: the types' tables are looked up once, the places of variables are marked as told. -/
import Derived.Test.YtgmgkkbpgndaaaaGreatDoorPCore
namespace Go.Proofs.YtgmgkkbpgndaaaaGreatDoor
namespace AI
inductive Gx where
 |own
 |Aff (off es:Nat)
 |mode (m:Mode)
 deriving Inhabited
structure Jh where
 id:Nat
 head:Option Nat:=none
 JC:List Nat:=[]
 live:List Nat:=[]
 trunc:Option Nat:=none
 ops:List (Nat×Gx):=[]
 hdr:List Nat:=[]
 par:Bool:=false
 mix:Bool:=false
 wob:List Nat:=[]
 pc:List Nat:=[]
 deriving Inhabited
def Rx:List (Nat×Gx)→Nat→Option Gx
 |[],_=>none
 |(j,a)::r,i=>if i=j then some a else Rx r i
def Eo:List Jh→Nat→Jh
 |[],i=>{id:=i}
 |a::r,i=>if a.id=i then a else Eo r i
def ND:Value→Option AV
 | .bool b=>some (.bool b)
 | .int k n=>some (.int k n)
 | .string s=>some (.str s.data.toList)
 | .slice none 0 0=>some (.sl false [])
 | .pointer none=>some .Je
 | .map none=>some .Du
 | .nilFunc=>some .Gg
 | .nilIface=>some .Hl
 | .func (.func f) fs cs=>if fs.size=0∧cs.size=0 then some (.fn f [])else none
 |_=>none
def ofValues:List Value→Option (List AV)
 |[]=>some []
 |v::vs=>match ND v,ofValues vs with
  |some a,some b=>some (a::b)
  |_,_=>none
def ofValue:Value→Option AV
 | .agg cs=>(ofValues cs.toList).map .agg
 |v=>ND v
def Ar:Operand→Option AO
 | .tmp t=>some (.tmp t)
 | .const v=>(ofValue v).map .cst
 | .func f=>some (.cst (.fn f []))
 | .global _=>none
def BP:List Operand→Option (List AO)
 |[]=>some []
 |v::vs=>match Ar v,BP vs with
  |some a,some b=>some (a::b)
  |_,_=>none
variable (P:Program)
def UZ (t:TypeId):Bool:=match P.underlying t with
 |some (.struct _)|some (.array _ _)=>true
 |_=>false
def BH (t:TypeId):Option Nat:=match P.info? t with
 |some i=>if 0<i.size then some i.size else none
 |none=>none
def szT (t:TypeId):Option (Option Nat):=match P.underlying t,BH P t with
 |some (.struct _),some n=>some (some n)
 |some (.array _ _),some n=>some (some n)
 |some _,some 1=>some none
 |_,_=>none
def EJ (t:TypeId):Option (Nat×AV):=match P.info? t,BH P t with
 |some i,some n=>match i.zero with
  |some z=>match ofValue z with
   |some v=>if v.cells.length=n then some (n,v)else none
   |none=>none
  |none=>none
 |_,_=>none
def FK (t:TypeId):Option JH:=match P.underlying t with
 |some .bool=>some .bool
 |some (.int _)=>some .int
 |some .string=>some .str
 |_=>none
def TW:List Field→Nat→Option (List JH)
 |[],_=>some []
 |f::fs,i=>match FK P f.type,TW fs (i+1)with
  | some k, some ks => if f.offset = i ∧ (f.name == "_") = false ∧ BH P f.type = some 1 then some (k :: ks) else none
  |_,_=>none
def Zm (t:TypeId):JH:=match P.underlying t with
 |some .bool=>.bool
 |some (.int _)=>.int
 |some .string=>.str
 |some (.slice _)=>.slice
 |some (.pointer _)=>.ptr
 |some (.func _ _ _)=>.func
 |some (.map _ _)=>.map
 |some (.struct fs)=>match TW P fs.toList 0 with
  |some ks=>if P.eqGuardType P.depth t=false∧P.stoodInHeld t=false∧BH P t=some ks.length then .flat ks else .other
  |none=>.other
 |_=>.other
def MO (fs:List Field):List (Nat×Operand)→Option (List (Nat×Nat×AO))
 |[]=>some []
 |(i,x)::ps=>match nth fs i,Ar x,MO fs ps with
  |some f,some a,some r=>match BH P f.type with
   |some n=>some ((f.offset,n,a)::r)
   |none=>none
  |_,_,_=>none
def IG (es:Nat):List (Nat×Operand)→Option (List (Nat×Nat×AO))
 |[]=>some []
 |(i,x)::ps=>match Ar x,IG es ps with
  |some a,some r=>some ((i*es,es,a)::r)
  |_,_=>none
def Js:List (Nat×Operand)→Option (List (Nat×AO))
 |[]=>some []
 |(i,x)::ps=>match Ar x,Js ps with
  |some a,some r=>some ((i,a)::r)
  |_,_=>none
def F5:Option Operand→Option (Option AO)
 |none=>some none
 |some x=>(Ar x).map some
def isZero:Option Operand→Bool
 |some (.const (.int _ 0))=>true
 |_=>false
def Wx (m:Mode) (c:Call):Option CJ:=
 match c.callee,BP c.args.toList with
 | .value (.func f),some args=>some (.call m f args)
 | .value (.tmp t),some args=>some (.Hq m (.tmp t) args)
 | .builtin .len,some [x]=>match nth c.argTypes.toList 0 with
   |some t=>match P.underlying t with
    |some .string=>some (.len .str x)
    |some (.slice _)=>some (.len .slice x)
    |some (.map _ _)=>some (.len .map x)
    |_=>none
   |none=>none
 | .builtin .min,some [x,y]=>some (.min x y)
 | .builtin .max,some [x,y]=>some (.max x y)
 | .builtin .append,some [x,y]=>match c.argTypes.toList with
   |[t,t']=>match P.underlying t with
    |some (.slice e)=>match EJ P e,P.info? e with
     |some (es,_),some i=>if 0<i.bytes∧t=t' then some (.append es i.bytes x y)else none
     |_,_=>none
    |_=>none
   |_=>none
 | .builtin .clear,some [x]=>match c.argTypes.toList with
   |[t]=>match P.underlying t with
    |some (.slice e)=>match EJ P e with
     |some (es,_)=>some (.clear es x)
     |none=>none
    |_=>none
   |_=>none
 | .builtin .delete,some [m,k]=>match c.argTypes.toList with
   |t::_=>match P.underlying t with
    |some (.map kt _)=>(FK P kt).map fun l=>.delete l m k
    |_=>none
   |_=>none
 | .builtin .cap,some [x]=>match nth c.argTypes.toList 0 with
   |some t=>match P.underlying t with
    |some (.slice _)=>some (.len .func x)
    |_=>none
   |none=>none
 |_,_=>none
def Agf:Option Gx→Mode
 |some (.mode m)=>m
 |_=>.pure
def Jg (o:Oper) (ann:Option Gx):Option CJ:=
 match o.op with
 | .move x=>(Ar x).map .mov
 | .assign x=>match ann with
   |some .own=>match x,P.underlying o.type with
    | .const (.slice none 0 0),some (.slice e)=>(BH P e).map .Ji
    |_,_=>none
   |_=>(Ar x).map .mov
 | .pick c a b=>match Ar c,Ar a,Ar b with
   |some c,some a,some b=>some (.pick c a b)
   |_,_,_=>none
 | .alloc t=>match ann with
   |some (.Aff off e2)=>match EJ P t with
    |some (n,.agg cs)=>some (.JU off e2 n cs)
    |_=>none
   |_=>(EJ P t).map fun(n,z)=>.alloc n z
 | .box t x=>match BH P t,Ar x with
   |some n,some x=>some (.box n x)
   |_,_=>none
 | .build t parts=>match EJ P t with
   |some (_,.agg z)=>match P.underlying t with
    |some (.struct fs)=>if fs.toList.all (fun f=>(BH P f.type).isSome)then(MO P fs.toList parts.toList).map (.build z)else none
    |some (.array _ e)=>match BH P e with
     |some es=>(IG es parts.toList).map (.build z)
     |none=>none
    |_=>none
   |_=>none
 | .buildSlice t len parts=>match P.underlying t with
   |some (.slice e)=>match EJ P e,Js parts.toList with
    |some (es,z),some ps=>if len*es≤16777216 then some (.lit (match ann with|some .own=>true|_=>false) es z len ps)else none
    |_,_=>none
   |_=>none
 | .load t a=>match szT P t,Ar a with
   |some sz,some a=>some (.load sz a)
   |_,_=>none
 | .store t a x=>match BH P t,Ar a,Ar x with
   |some n,some a,some x=>some (.store n a x)
   |_,_,_=>none
 | .nilCheck x=>(Ar x).map .OM
 | .binOp op t x y _=>match Ar x,Ar y with
   |some x,some y=>some (.bin op (Zm P t) x y)
   |_,_=>none
 | .unOp op _ x=>(Ar x).map (.un op)
 | .convert src dst x=>match P.underlying src,P.underlying dst,Ar x with
   |some (.int _),some (.int k),some x=>some (.conv k x)
   |some .string,some .string,some x=>some (.convs x)
   |_,_,_=>none
 | .makeInterface t x=>match P.underlying t with
   |some (.interface _)=>none
   |some _=>(Ar x).map (.Ad8 t)
   |none=>none
 | .makeFunc (.func f) fs caps=>if fs.size=0 then(BP caps.toList).map (.Ab7 f)else none
 | .makeMap _ none=>some .NK
 | .makeSlice t l c=>match P.underlying t with
   |some (.slice e)=>match EJ P e,P.info? e,Ar l,Ar c with
    |some (es,z),some i,some l,some c=>if 0<i.bytes then some (.Ic es i.bytes z l c)else none
    |_,_,_,_=>none
   |_=>none
 | .slice t x lo hi mx=>match P.underlying t,Ar x,mx with
   |some (.slice e),some x,none=>match BH P e,F5 lo,F5 hi with
    |some es,some lo,some hi=>some (.slice es x lo hi)
    |_,_,_=>none
   |some .string,some x,none=>match F5 lo,F5 hi with
    |some lo,some hi=>some (.KW x lo hi)
    |_,_=>none
   |some (.slice e),some x,some mx=>if(lo.isNone||isZero lo)&&isZero hi&&isZero (some mx)&&(BH P e).isSome then some (.Ry x)else none
   |_,_,_=>none
 | .fieldAddr t x f=>match P.underlying t,Ar x with
   |some (.struct fs),some x=>match nth fs.toList f with
    |some fd=>(BH P fd.type).map fun _=>.QV fd.offset x
    |none=>none
   |_,_=>none
 | .field t x f=>match P.underlying t,Ar x with
   |some (.struct fs),some x=>match nth fs.toList f with
    |some fd=>(szT P fd.type).map fun sz=>.field fd.offset sz x
    |none=>none
   |_,_=>none
 | .indexAddr t x i=>match P.underlying t,Ar x,Ar i with
   |some (.slice e),some x,some i=>(BH P e).map fun es=>.QY es x i
   |some (.array n e),some x,some i=>(BH P e).map fun es=>.Wn es n x i
   |_,_,_=>none
 | .index t x i=>match P.underlying t,Ar x,Ar i with
   |some .string,some x,some i=>some (.Ya x i)
   |some (.array n e),some x,some i=>match BH P e,szT P e with
    |some es,some sz=>some (.AbS es n sz x i)
    |_,_=>none
   |_,_,_=>none
 | .lookup t m k Ql=>match P.underlying t,Ar m,Ar k with
   |some (.map kt e),some m,some k=>match FK P kt,EJ P e with
    |some l,some (_,z)=>some (.lookup l z Ql m k)
    |_,_=>none
   |_,_,_=>none
 | .mapUpdate t m k v| .insert t m k v=>match P.underlying t,Ar m,Ar k,Ar v with
   |some (.map kt _),some m,some k,some v=>(FK P kt).map fun l=>.mapset l m k v
   |_,_,_,_=>none
 | .extract x i=>(Ar x).map fun x=>.ext x i
 | .panic x=>(Ar x).map .panic
 | .call c=>Wx P (Agf ann) c
 |_=>none
def EF (ops:Array Oper) (n:Nat):Option (Nat×Bool)→Option (Option (Nat×Bool))
 |none=>some none
 |some (j,b)=>match(ops[j]?).bind (·.dst)with
  |some t=>if t<n then some (some (t,b))else none
  |none=>none
def Ab8 (n:Nat):Option Nat→Bool
 |some d=>decide (d<n)
 |none=>true
def DU (ops:Array Oper) (n:Nat) (an:List (Nat×Gx)):List Oper→Nat→Option (List Az)
 |[],_=>some []
 |o::os,i=>match Jg P o (Rx an i),EF ops n o.guard,DU ops n an os (i+1)with
  |some ao,some g,some r=>if Ab8 n o.dst then some (⟨o.dst,ao,g⟩::r)else none
  |_,_,_=>none
def AO.slots:AO→List Nat
 | .tmp t=>[t]
 | .cst _=>[]
def slotsOf (o:Az):List Nat:=
 o.dst.toList++o.op.BQ.flatMap AO.slots++(match o.guard with|some (t,_)=>[t]|none=>[])
def U7 (ops:Array Oper) (BQ:List Az) (m:Nat):Bool:=
 let b:=Region.before ops
 (List.range ops.size).all fun j=>match ops[j]?,BQ[j]? with
    |some o,some ao=>
     (o.after.toList.all fun e=>!Region.binds .any e||decide (e.on<j))&&
     ((List.range ops.size).all fun i=>i==j||match(ops[i]?).bind (·.dst)with
       |some t=>!(slotsOf ao).contains t||(if i<j then(b.getD j 0).testBit i else(b.getD i 0).testBit j)
       |none=>true)&&
     (decide (j<m)||(List.range j).all fun i=>(b.getD j 0).testBit i)
    |_,_=>false
def U8 (ops:Array Oper) (BQ:List Az) (m f:Nat):Bool:=
 let b:=Region.before ops
 (List.range ops.size).all fun j=>match ops[j]?,BQ[j]? with
    |some o,some ao=>
     (o.after.toList.all fun e=>!Region.binds .any e||decide (e.on<j))&&
     ((List.range ops.size).all fun i=>i==j||match(ops[i]?).bind (·.dst)with
       |some t=>!(slotsOf ao).contains t||(if i<j then(b.getD j 0).testBit i else(b.getD i 0).testBit j)
       |none=>true)&&
     (decide (j<m)||(List.range j).all fun i=>i==f||(b.getD j 0).testBit i)
    |_,_=>false
def D7 (m:Nat) (os:List Az):Bool:=(os.take m).all fun o=>o.op.Fz
def JV (o:Az):Nat:=match o.op.cls with
 |some .e=>0
 |some .r=>1
 |some .w=>2
 |some .a=>3
 |none=>4
def Ad9 (m:Nat) (os:List Az):Bool:=(os.take m).all fun o=>JV o != 4
def Qm (ops:Array Oper) (os:List Az) (m:Nat):List (Nat×Nat):=
 let b:=Region.before ops
 (List.range m).flatMap fun j=>((List.range j).filter fun i=>match os[i]?,os[j]? with
    |some oi,some oj=>!(b.getD j 0).testBit i&&JV oi != 0&&JV oj != 0&&(JV oi != 1||JV oj != 1)
    |_,_=>false).map fun i=>(i,j)
def I7:Code→Nat
 | .region id _ _=>id
 | .seq a _=>I7 a
 | .cond _ a _=>I7 a
 | .block _ a=>I7 a
 | .loop a=>I7 a
 |_=>0
def WO (ops:Array Oper) (BQ:List Az) (m:Nat) (W pc:List Nat):Bool:=
 let b:=Region.before ops
 (match pc with
 |p::E=>(E.all fun i=>!DK i W)&&(List.range ops.size).all fun j=>decide (j≤p)||DK j E||(b.getD j 0).testBit p
 |[]=>true)&&
 (List.range ops.size).all fun j=>match ops[j]?,BQ[j]? with
    |some o,some ao=>
     (o.after.toList.all fun e=>!Region.binds .any e||decide (e.on<j))&&
     ((List.range ops.size).all fun i=>i==j||match(ops[i]?).bind (·.dst)with
       |some t=>!(slotsOf ao).contains t||(if i<j then(b.getD j 0).testBit i else(b.getD i 0).testBit j)
       |none=>true)&&
     (decide (j<m)||flt ao||DK j W||(List.range j).all fun i=>(match BQ[i]? with|some ai=>flt ai|none=>false)||DK i W||(b.getD j 0).testBit i)
    |_,_=>false
def KX:CS:=.cond (.cst (.int .i64 0)) .skip .skip
def II (l:JH) (d1 d2 m k x:Nat):List Az:=[⟨some d1,.mov (.cst .junk),none⟩,⟨some d2,.mov (.cst .junk),none⟩,⟨none,.mapset l (.tmp m) (.tmp k) (.tmp x),none⟩]
def Rz (ops:Array Oper) (m:Nat):Option (TypeId×Nat×Nat×Nat×Nat×Nat):=
 match ops[m]?,ops[m+1]?,ops[m+2]? with
 |some o1,some o2,some o3=>match o1.op,o1.dst,o1.guard,o2.op,o2.dst,o2.guard with
  | .mapEntry t (.tmp tm) (.tmp tk),some d1,none,.extract (.tmp e1) 1,some d2,none=>match o3.op,o3.dst,o3.guard with
    | .entryStore _ (.tmp tm') (.tmp e2) (.tmp tx),none,none=>
      if e1=d1∧e2=d2∧tm'=tm∧d1≠d2∧(tm≠d1∧tm≠d2)∧(tk≠d1∧tk≠d2)∧(tx≠d1∧tx≠d2)∧tm≠tx∧tk≠tx then some (t,d1,d2,tm,tk,tx)else none
    |_,_,_=>none
  |_,_,_,_,_,_=>none
 |_,_,_=>none
def Qn (ops:Array Oper) (m tx d1 d2:Nat):Option (Nat×Nat):=
 match(List.range m).find? fun i=>(ops[i]?).bind (·.dst)==some tx with
 |some f=>match ops[f]? with
  |some o=>match o.op,o.guard with
   | .move (.tmp ty),none=>if o.dst=some tx∧ty≠d1∧ty≠d2∧f<m∧((Region.before ops).getD (m+2) 0).testBit f=true then some (f,ty)else none
   |_,_=>none
  |none=>none
 |none=>none
def Afg (ops:Array Oper) (BQ:List Az) (m:Nat):Bool:=match Rz ops m with
 |some (_,d1,d2,_,_,tx)=>match Qn ops m tx d1 d2 with
  |some (f,_)=>U8 ops BQ m f&&D7 m BQ
  |none=>false
 |none=>false
def Zx (n:Nat) (an:List (Nat×Gx)) (ops:Array Oper) (m:Nat):Option (List Az):=
 match Rz ops m with
 |some (t,d1,d2,tm,tk,tx)=>match P.underlying t with
  |some (.map kt e)=>match FK P kt,EJ P e,DU P ops n an (ops.toList.take m) 0,DU P ops n an (ops.toList.drop (m+3)) (m+3)with
   |some l,some _,some hd,some tl=>if d1<n∧d2<n then some (hd++(II l d1 d2 tm tk tx++tl))else none
   |_,_,_,_=>none
  |_=>none
 |none=>none
def EK (n:Nat) (an:List Jh):Code→Option CS
 | .skip=>some .skip
 | .region id ops draw=>
   let a:=Eo an id
   match DU P ops n a.ops ops.toList 0 with
   |some os=>if draw then
     let m:=a.head.getD os.length
     if a.par then
          if U7 ops os m&&Ad9 m os&&decide (m≤ops.size)then some (.par m (Qm ops os m) a.JC os a.live a.trunc)else none
     else if a.mix then
          if WO ops os m a.wob a.pc&&D7 m os then some (.mix m a.wob a.pc a.JC os a.live a.trunc)else none
     else if U7 ops os m&&D7 m os then some (.region (some m) a.JC os a.live a.trunc)else none
    else some (.region none a.JC os a.live a.trunc)
   |none=>match a.head with
    |some m=>match Zx P n a.ops ops m with
     |some os=>if draw&&Afg ops os m then some (.region (some m) a.JC os a.live a.trunc)else some KX
     |none=>some KX
    |none=>some KX
 | .seq x y=>match EK n an x,EK n an y with
   |some a,some b=>some (.seq a b)
   |_,_=>none
 | .cond c x y=>match Ar c,EK n an x,EK n an y with
   |some c,some a,some b=>some (.cond c a b)
   |_,_,_=>none
 | .block id x=>(EK n an x).map (.block id)
 | .loop x=>(EK n an x).map (.loop (Eo an (I7 x)).hdr)
 | .exit id=>some (.exit id)
 | .ret=>some .ret
 |_=>some KX
def FU (n:Nat):List ResultVar→Option (List U9)
 |[]=>some []
 | .tmp t::rs=>if t<n then(FU n rs).map (.tmp t::·)else none
 | .cell a t::rs=>match szT P t,FU n rs with
   |some sz,some r=>some (.cell a sz::r)
   |_,_=>none
def PD (an:List Jh) (f:Func):Option Hf:=
 match f.body with
 |some b=>match EK P f.ntmps an b,FU P f.ntmps f.results.toList with
  |some c,some rs=>if f.params.size+f.nfree≤f.ntmps then some ⟨f.params.size+f.nfree,c,rs⟩else none
  |_,_=>none
 |none=>none
def IJ:List Az→Nat→List (Nat×Gx)
 |[],_=>[]
 |o::os,i=>match o.op with
  | .call .pure _ _=>IJ os (i+1)
  | .call m _ _=>(i,.mode m)::IJ os (i+1)
  | .Hq .pure _ _=>IJ os (i+1)
  | .Hq m _ _=>(i,.mode m)::IJ os (i+1)
  | .Ji _=>(i,.own)::IJ os (i+1)
  | .lit true _ _ _ _=>(i,.own)::IJ os (i+1)
  | .JU off e2 _ _=>(i,.Aff off e2)::IJ os (i+1)
  |_=>IJ os (i+1)
def Ab9 (i:Nat) (l:List Nat):List Jh→List Jh
 |[]=>[]
 |a::r=>if a.id=i then{a with hdr:=l}::r else a::Ab9 i l r
def anZ:Code→CS→List Jh
 | .region id _ _,.region h JC ops live tr=>[{id:=id,head:=h,JC:=JC,live:=live,trunc:=tr,ops:=IJ ops 0}]
 | .region id _ _,.par m _ JC ops live tr=>[{id:=id,head:=some m,JC:=JC,live:=live,trunc:=tr,ops:=IJ ops 0,par:=true}]
 | .region id _ _,.mix m W pc JC ops live tr=>[{id:=id,wob:=W,pc:=pc,head:=some m,JC:=JC,live:=live,trunc:=tr,ops:=IJ ops 0,mix:=true}]
 | .seq a b,.seq x y=>anZ a x++anZ b y
 | .cond _ a b,.cond _ x y=>anZ a x++anZ b y
 | .block _ a,.block _ x=>anZ a x
 | .loop a,.loop live x=>Ab9 (I7 a) live (anZ a x)
 |_,_=>[]
def anF (f:Func) (a:Hf):List Jh:=match f.body with
 |some b=>anZ b a.body
 |none=>[]
def cok (f:Func) (a:Hf):Option Hf:=PD P (anF f a) f
end AI
end Go.Proofs.YtgmgkkbpgndaaaaGreatDoor
