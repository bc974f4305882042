/- From the model's code to the abstract interpreter's: the types' tables are looked up once, the places of variables are marked as told. -/
import Derived.Test.YtjijnamhalgamaaGreatDoorBCore
namespace Go.Proofs.YtjijnamhalgamaaGreatDoor
namespace AI
inductive Ju where
 |own
 |AiC (off es:Nat)
 |mode (m:Mode)
 deriving Inhabited
structure JX where
 id:Nat
 head:Option Nat:=none
 La:List Nat:=[]
 live:List Nat:=[]
 trunc:Option Nat:=none
 ops:List (Nat×Ju):=[]
 hdr:List Nat:=[]
 par:Bool:=false
 mix:Bool:=false
 wob:List Nat:=[]
 pc:List Nat:=[]
 deriving Inhabited
def Aar:List (Nat×Ju)→Nat→Option Ju
 |[],_=>none
 |(j,a)::r,i=>if i=j then some a else Aar r i
def Fh:List JX→Nat→JX
 |[],i=>{id:=i}
 |a::r,i=>if a.id=i then a else Fh r i
def PY:Value→Option AV
 | .bool b=>some (.bool b)
 | .int k n=>some (.int k n)
 | .string s=>some (.str s.data.toList)
 | .slice none 0 0=>some (.sl false [])
 | .pointer none=>some .JO
 | .map none=>some .Dv
 | .nilFunc=>some .Gn
 | .nilIface=>some .Ii
 | .func (.func f) fs cs=>if fs.size=0∧cs.size=0 then some (.fn f [])else none
 |_=>none
def ofValues:List Value→Option (List AV)
 |[]=>some []
 |v::vs=>match PY v,ofValues vs with
  |some a,some b=>some (a::b)
  |_,_=>none
def ofValue:Value→Option AV
 | .agg cs=>(ofValues cs.toList).map .agg
 |v=>PY v
def Az:Operand→Option AO
 | .tmp t=>some (.tmp t)
 | .const v=>(ofValue v).map .cst
 | .func f=>some (.cst (.fn f []))
 | .global _=>none
def BK:List Operand→Option (List AO)
 |[]=>some []
 |v::vs=>match Az v,BK vs with
  |some a,some b=>some (a::b)
  |_,_=>none
variable (P:Program)
def WQ (t:TypeId):Bool:=match P.underlying t with
 |some (.struct _)|some (.array _ _)=>true
 |_=>false
def BA (t:TypeId):Option Nat:=match P.info? t with
 |some i=>if 0<i.size then some i.size else none
 |none=>none
def szT (t:TypeId):Option (Option Nat):=match P.underlying t,BA P t with
 |some (.struct _),some n=>some (some n)
 |some (.array _ _),some n=>some (some n)
 |some _,some 1=>some none
 |_,_=>none
def GL (t:TypeId):Option (Nat×AV):=match P.info? t,BA P t with
 |some i,some n=>match i.zero with
  |some z=>match ofValue z with
   |some v=>if v.cells.length=n then some (n,v)else none
   |none=>none
  |none=>none
 |_,_=>none
def IE (t:TypeId):Option Nl:=match P.underlying t with
 |some .bool=>some .bool
 |some (.int _)=>some .int
 |some .string=>some .str
 |_=>none
def Vo:List Field→Nat→Option (List Nl)
 |[],_=>some []
 |f::fs,i=>match IE P f.type,Vo fs (i+1)with
  | some k, some ks => if f.offset = i ∧ (f.name == "_") = false ∧ BA P f.type = some 1 then some (k :: ks) else none
  |_,_=>none
def Yg (t:TypeId):Nl:=match P.underlying t with
 |some .bool=>.bool
 |some (.int _)=>.int
 |some .string=>.str
 |some (.slice _)=>.slice
 |some (.pointer _)=>.ptr
 |some (.func _ _ _)=>.func
 |some (.map _ _)=>.map
 |some (.struct fs)=>match Vo P fs.toList 0 with
  |some ks=>if P.eqGuardType P.depth t=false∧P.stoodInHeld t=false∧BA P t=some ks.length then .flat ks else .other
  |none=>.other
 |_=>.other
def Oq (fs:List Field):List (Nat×Operand)→Option (List (Nat×Nat×AO))
 |[]=>some []
 |(i,x)::ps=>match nth fs i,Az x,Oq fs ps with
  |some f,some a,some r=>match BA P f.type with
   |some n=>some ((f.offset,n,a)::r)
   |none=>none
  |_,_,_=>none
def Ji (es:Nat):List (Nat×Operand)→Option (List (Nat×Nat×AO))
 |[]=>some []
 |(i,x)::ps=>match Az x,Ji es ps with
  |some a,some r=>some ((i*es,es,a)::r)
  |_,_=>none
def J9:List (Nat×Operand)→Option (List (Nat×AO))
 |[]=>some []
 |(i,x)::ps=>match Az x,J9 ps with
  |some a,some r=>some ((i,a)::r)
  |_,_=>none
def Gh:Option Operand→Option (Option AO)
 |none=>some none
 |some x=>(Az x).map some
def isZero:Option Operand→Bool
 |some (.const (.int _ 0))=>true
 |_=>false
def X8 (m:Mode) (c:Call):Option CG:=
 match c.callee,BK c.args.toList with
 | .value (.func f),some args=>some (.call m f args)
 | .value (.tmp t),some args=>some (.Ih m (.tmp t) args)
 | .builtin .len,some [x]=>match nth c.argTypes.toList 0 with
   |some t=>match P.underlying t with
    |some .string=>some (.len .str x)
    |some (.slice _)=>some (.len .slice x)
    |some (.map _ _)=>some (.len .map x)
    |_=>none
   |none=>none
 | .builtin .min,some [x,y]=>some (.min x y)
 | .builtin .max,some [x,y]=>some (.max x y)
 | .builtin .append,some [x,y]=>match c.argTypes.toList with
   |[t,t']=>match P.underlying t with
    |some (.slice e)=>match GL P e,P.info? e with
     |some (es,_),some i=>if 0<i.bytes∧t=t' then some (.append es i.bytes x y)else none
     |_,_=>none
    |_=>none
   |_=>none
 | .builtin .clear,some [x]=>match c.argTypes.toList with
   |[t]=>match P.underlying t with
    |some (.slice e)=>match GL P e with
     |some (es,_)=>some (.clear es x)
     |none=>none
    |_=>none
   |_=>none
 | .builtin .delete,some [m,k]=>match c.argTypes.toList with
   |t::_=>match P.underlying t with
    |some (.map kt _)=>(IE P kt).map fun l=>.delete l m k
    |_=>none
   |_=>none
 | .builtin .cap,some [x]=>match nth c.argTypes.toList 0 with
   |some t=>match P.underlying t with
    |some (.slice _)=>some (.len .func x)
    |_=>none
   |none=>none
 |_,_=>none
def Aki:Option Ju→Mode
 |some (.mode m)=>m
 |_=>.pure
def Qp (o:Oper) (ann:Option Ju):Option CG:=
 match o.op with
 | .move x=>(Az x).map .mov
 | .assign x=>match ann with
   |some .own=>match x,P.underlying o.type with
    | .const (.slice none 0 0),some (.slice e)=>(BA P e).map .JM
    |_,_=>none
   |_=>(Az x).map .mov
 | .pick c a b=>match Az c,Az a,Az b with
   |some c,some a,some b=>some (.pick c a b)
   |_,_,_=>none
 | .alloc t=>match ann with
   |some (.AiC off e2)=>match GL P t with
    |some (n,.agg cs)=>some (.KP off e2 n cs)
    |_=>none
   |_=>(GL P t).map fun(n,z)=>.alloc n z
 | .box t x=>match BA P t,Az x with
   |some n,some x=>some (.box n x)
   |_,_=>none
 | .build t parts=>match GL P t with
   |some (_,.agg z)=>match P.underlying t with
    |some (.struct fs)=>if fs.toList.all (fun f=>(BA P f.type).isSome)then(Oq P fs.toList parts.toList).map (.build z)else none
    |some (.array _ e)=>match BA P e with
     |some es=>(Ji es parts.toList).map (.build z)
     |none=>none
    |_=>none
   |_=>none
 | .buildSlice t len parts=>match P.underlying t with
   |some (.slice e)=>match GL P e,J9 parts.toList with
    |some (es,z),some ps=>if len*es≤16777216 then some (.lit (match ann with|some .own=>true|_=>false) es z len ps)else none
    |_,_=>none
   |_=>none
 | .load t a=>match szT P t,Az a with
   |some sz,some a=>some (.load sz a)
   |_,_=>none
 | .store t a x=>match BA P t,Az a,Az x with
   |some n,some a,some x=>some (.store n a x)
   |_,_,_=>none
 | .nilCheck x=>(Az x).map .Qv
 | .binOp op t x y _=>match Az x,Az y with
   |some x,some y=>some (.bin op (Yg P t) x y)
   |_,_=>none
 | .unOp op _ x=>(Az x).map (.un op)
 | .convert src dst x=>match P.underlying src,P.underlying dst,Az x with
   |some (.int _),some (.int k),some x=>some (.conv k x)
   |some .string,some .string,some x=>some (.convs x)
   |_,_,_=>none
 | .makeInterface t x=>match P.underlying t with
   |some (.interface _)=>none
   |some _=>(Az x).map (.Ag8 t)
   |none=>none
 | .makeFunc (.func f) fs caps=>if fs.size=0 then(BK caps.toList).map (.Ac8 f)else none
 | .makeMap _ none=>some .Pm
 | .makeSlice t l c=>match P.underlying t with
   |some (.slice e)=>match GL P e,P.info? e,Az l,Az c with
    |some (es,z),some i,some l,some c=>if 0<i.bytes then some (.IQ es i.bytes z l c)else none
    |_,_,_,_=>none
   |_=>none
 | .slice t x lo hi mx=>match P.underlying t,Az x,mx with
   |some (.slice e),some x,none=>match BA P e,Gh lo,Gh hi with
    |some es,some lo,some hi=>some (.slice es x lo hi)
    |_,_,_=>none
   |some .string,some x,none=>match Gh lo,Gh hi with
    |some lo,some hi=>some (.LW x lo hi)
    |_,_=>none
   |some (.slice e),some x,some mx=>if(lo.isNone||isZero lo)&&isZero hi&&isZero (some mx)&&(BA P e).isSome then some (.Si x)else none
   |_,_,_=>none
 | .fieldAddr t x f=>match P.underlying t,Az x with
   |some (.struct fs),some x=>match nth fs.toList f with
    |some fd=>(BA P fd.type).map fun _=>.SY fd.offset x
    |none=>none
   |_,_=>none
 | .field t x f=>match P.underlying t,Az x with
   |some (.struct fs),some x=>match nth fs.toList f with
    |some fd=>(szT P fd.type).map fun sz=>.field fd.offset sz x
    |none=>none
   |_,_=>none
 | .indexAddr t x i=>match P.underlying t,Az x,Az i with
   |some (.slice e),some x,some i=>(BA P e).map fun es=>.S9 es x i
   |some (.array n e),some x,some i=>(BA P e).map fun es=>.Yh es n x i
   |_,_,_=>none
 | .index t x i=>match P.underlying t,Az x,Az i with
   |some .string,some x,some i=>some (.Y7 x i)
   |some (.array n e),some x,some i=>match BA P e,szT P e with
    |some es,some sz=>some (.Aev es n sz x i)
    |_,_=>none
   |_,_,_=>none
 | .lookup t m k Rz=>match P.underlying t,Az m,Az k with
   |some (.map kt e),some m,some k=>match IE P kt,GL P e with
    |some l,some (_,z)=>some (.lookup l z Rz m k)
    |_,_=>none
   |_,_,_=>none
 | .mapUpdate t m k v| .insert t m k v=>match P.underlying t,Az m,Az k,Az v with
   |some (.map kt _),some m,some k,some v=>(IE P kt).map fun l=>.mapset l m k v
   |_,_,_,_=>none
 | .extract x i=>(Az x).map fun x=>.ext x i
 | .panic x=>(Az x).map .panic
 | .call c=>X8 P (Aki ann) c
 |_=>none
def I9 (ops:Array Oper) (n:Nat):Option (Nat×Bool)→Option (Option (Nat×Bool))
 |none=>some none
 |some (j,b)=>match(ops[j]?).bind (·.dst)with
  |some t=>if t<n then some (some (t,b))else none
  |none=>none
def Ac6 (n:Nat):Option Nat→Bool
 |some d=>decide (d<n)
 |none=>true
def F5 (ops:Array Oper) (n:Nat) (an:List (Nat×Ju)):List Oper→Nat→Option (List AX)
 |[],_=>some []
 |o::os,i=>match Qp P o (Aar an i),I9 ops n o.guard,F5 ops n an os (i+1)with
  |some ao,some g,some r=>if Ac6 n o.dst then some (⟨o.dst,ao,g⟩::r)else none
  |_,_,_=>none
def AO.slots:AO→List Nat
 | .tmp t=>[t]
 | .cst _=>[]
def slotsOf (o:AX):List Nat:=
 o.dst.toList++o.op.C9.flatMap AO.slots++(match o.guard with|some (t,_)=>[t]|none=>[])
def V7 (ops:Array Oper) (C9:List AX) (m:Nat):Bool:=
 let b:=Region.before ops
 (List.range ops.size).all fun j=>match ops[j]?,C9[j]? with
    |some o,some ao=>
     (o.after.toList.all fun e=>!Region.binds .any e||decide (e.on<j))&&
     ((List.range ops.size).all fun i=>i==j||match(ops[i]?).bind (·.dst)with
       |some t=>!(slotsOf ao).contains t||(if i<j then(b.getD j 0).testBit i else(b.getD i 0).testBit j)
       |none=>true)&&
     (decide (j<m)||(List.range j).all fun i=>(b.getD j 0).testBit i)
    |_,_=>false
def FX (m:Nat) (os:List AX):Bool:=(os.take m).all fun o=>o.op.FQ
def Lp (o:AX):Nat:=match o.op.cls with
 |some .e=>0
 |some .r=>1
 |some .w=>2
 |some .a=>3
 |none=>4
def Ag9 (m:Nat) (os:List AX):Bool:=(os.take m).all fun o=>Lp o != 4
def RJ (ops:Array Oper) (os:List AX) (m:Nat):List (Nat×Nat):=
 let b:=Region.before ops
 (List.range m).flatMap fun j=>((List.range j).filter fun i=>match os[i]?,os[j]? with
    |some oi,some oj=>!(b.getD j 0).testBit i&&Lp oi != 0&&Lp oj != 0&&(Lp oi != 1||Lp oj != 1)
    |_,_=>false).map fun i=>(i,j)
def JF:Code→Nat
 | .region id _ _=>id
 | .seq a _=>JF a
 | .cond _ a _=>JF a
 | .block _ a=>JF a
 | .loop a=>JF a
 |_=>0
def Yi (ops:Array Oper) (C9:List AX) (m:Nat) (W pc:List Nat):Bool:=
 let b:=Region.before ops
 (match pc with
 |p::E=>(E.all fun i=>!DN i W)&&(List.range ops.size).all fun j=>decide (j≤p)||DN j E||(b.getD j 0).testBit p
 |[]=>true)&&
 (List.range ops.size).all fun j=>match ops[j]?,C9[j]? with
    |some o,some ao=>
     (o.after.toList.all fun e=>!Region.binds .any e||decide (e.on<j))&&
     ((List.range ops.size).all fun i=>i==j||match(ops[i]?).bind (·.dst)with
       |some t=>!(slotsOf ao).contains t||(if i<j then(b.getD j 0).testBit i else(b.getD i 0).testBit j)
       |none=>true)&&
     (decide (j<m)||flt ao||DN j W||(List.range j).all fun i=>(match C9[i]? with|some ai=>flt ai|none=>false)||DN i W||(b.getD j 0).testBit i)
    |_,_=>false
def Qz:Bg:=.cond (.cst (.int .i64 0)) .skip .skip
def EP (n:Nat) (an:List JX):Code→Option Bg
 | .skip=>some .skip
 | .region id ops draw=>
   let a:=Fh an id
   match F5 P ops n a.ops ops.toList 0 with
   |some os=>if draw then
     let m:=a.head.getD os.length
     if a.par then
          if V7 ops os m&&Ag9 m os&&decide (m≤ops.size)then some (.par m (RJ ops os m) a.La os a.live a.trunc)else none
     else if a.mix then
          if Yi ops os m a.wob a.pc&&FX m os then some (.mix m a.wob a.pc a.La os a.live a.trunc)else none
     else if V7 ops os m&&FX m os then some (.region (some m) a.La os a.live a.trunc)else none
    else some (.region none a.La os a.live a.trunc)
   |none=>some Qz
 | .seq x y=>match EP n an x,EP n an y with
   |some a,some b=>some (.seq a b)
   |_,_=>none
 | .cond c x y=>match Az c,EP n an x,EP n an y with
   |some c,some a,some b=>some (.cond c a b)
   |_,_,_=>none
 | .block id x=>(EP n an x).map (.block id)
 | .loop x=>(EP n an x).map (.loop (Fh an (JF x)).hdr)
 | .exit id=>some (.exit id)
 | .ret=>some .ret
 |_=>some Qz
def F8 (n:Nat):List ResultVar→Option (List WR)
 |[]=>some []
 | .tmp t::rs=>if t<n then(F8 n rs).map (.tmp t::·)else none
 | .cell a t::rs=>match szT P t,F8 n rs with
   |some sz,some r=>some (.cell a sz::r)
   |_,_=>none
def QZ (an:List JX) (f:Func):Option Il:=
 match f.body with
 |some b=>match EP P f.ntmps an b,F8 P f.ntmps f.results.toList with
  |some c,some rs=>if f.params.size+f.nfree≤f.ntmps then some ⟨f.params.size+f.nfree,c,rs⟩else none
  |_,_=>none
 |none=>none
def Js:List AX→Nat→List (Nat×Ju)
 |[],_=>[]
 |o::os,i=>match o.op with
  | .call .pure _ _=>Js os (i+1)
  | .call m _ _=>(i,.mode m)::Js os (i+1)
  | .Ih .pure _ _=>Js os (i+1)
  | .Ih m _ _=>(i,.mode m)::Js os (i+1)
  | .JM _=>(i,.own)::Js os (i+1)
  | .lit true _ _ _ _=>(i,.own)::Js os (i+1)
  | .KP off e2 _ _=>(i,.AiC off e2)::Js os (i+1)
  |_=>Js os (i+1)
def Aew (i:Nat) (l:List Nat):List JX→List JX
 |[]=>[]
 |a::r=>if a.id=i then{a with hdr:=l}::r else a::Aew i l r
def anZ:Code→Bg→List JX
 | .region id _ _,.region h La ops live tr=>[{id:=id,head:=h,La:=La,live:=live,trunc:=tr,ops:=Js ops 0}]
 | .region id _ _,.par m _ La ops live tr=>[{id:=id,head:=some m,La:=La,live:=live,trunc:=tr,ops:=Js ops 0,par:=true}]
 | .region id _ _,.mix m W pc La ops live tr=>[{id:=id,wob:=W,pc:=pc,head:=some m,La:=La,live:=live,trunc:=tr,ops:=Js ops 0,mix:=true}]
 | .seq a b,.seq x y=>anZ a x++anZ b y
 | .cond _ a b,.cond _ x y=>anZ a x++anZ b y
 | .block _ a,.block _ x=>anZ a x
 | .loop a,.loop live x=>Aew (JF a) live (anZ a x)
 |_,_=>[]
def anF (f:Func) (a:Il):List JX:=match f.body with
 |some b=>anZ b a.body
 |none=>[]
def cok (f:Func) (a:Il):Option Il:=QZ P (anF f a) f
end AI
end Go.Proofs.YtjijnamhalgamaaGreatDoor
