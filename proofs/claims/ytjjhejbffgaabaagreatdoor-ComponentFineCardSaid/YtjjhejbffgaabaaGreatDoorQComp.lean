/- From the model's code to the abstract interpreter's: the types' tables are looked up once, the places of variables are marked as told. -/
import Derived.Test.YtjjhejbffgaabaaGreatDoorQCore
namespace Go.Proofs.YtjjhejbffgaabaaGreatDoor
namespace AI
inductive FB where
 |own
 |AbF (off es:Nat)
 |mode (m:Mode)
 deriving Inhabited
structure Io where
 id:Nat
 head:Option Nat:=none
 IW:List Nat:=[]
 live:List Nat:=[]
 trunc:Option Nat:=none
 ops:List (Nat×FB):=[]
 hdr:List Nat:=[]
 par:Bool:=false
 mix:Bool:=false
 wob:List Nat:=[]
 pc:List Nat:=[]
 deriving Inhabited
def Qk:List (Nat×FB)→Nat→Option FB
 |[],_=>none
 |(j,a)::r,i=>if i=j then some a else Qk r i
def DK:List Io→Nat→Io
 |[],i=>{id:=i}
 |a::r,i=>if a.id=i then a else DK r i
def MX:Value→Option AV
 | .bool b=>some (.bool b)
 | .int k n=>some (.int k n)
 | .string s=>some (.str s.data.toList)
 | .slice none 0 0=>some (.sl false [])
 | .pointer none=>some .Ii
 | .map none=>some .CW
 | .nilFunc=>some .EO
 | .nilIface=>some .F6
 | .func (.func f) fs cs=>if fs.size=0∧cs.size=0 then some (.fn f [])else none
 |_=>none
def ofValues:List Value→Option (List AV)
 |[]=>some []
 |v::vs=>match MX v,ofValues vs with
  |some a,some b=>some (a::b)
  |_,_=>none
def ofValue:Value→Option AV
 | .agg cs=>(ofValues cs.toList).map .agg
 |v=>MX v
def Ah:Operand→Option AO
 | .tmp t=>some (.tmp t)
 | .const v=>(ofValue v).map .cst
 | .func f=>some (.cst (.fn f []))
 | .global _=>none
def Bl:List Operand→Option (List AO)
 |[]=>some []
 |v::vs=>match Ah v,Bl vs with
  |some a,some b=>some (a::b)
  |_,_=>none
variable (P:Program)
def RX (t:TypeId):Bool:=match P.underlying t with
 |some (.struct _)|some (.array _ _)=>true
 |_=>false
def Bc (t:TypeId):Option Nat:=match P.info? t with
 |some i=>if 0<i.size then some i.size else none
 |none=>none
def X3 (t:TypeId):Option (Option Nat):=match P.underlying t,Bc P t with
 |some (.struct _),some n=>some (some n)
 |some (.array _ _),some n=>some (some n)
 |some _,some 1=>some none
 |_,_=>none
def Ea (t:TypeId):Option (Nat×AV):=match P.info? t,Bc P t with
 |some i,some n=>match i.zero with
  |some z=>match ofValue z with
   |some v=>if v.cells.length=n then some (n,v)else none
   |none=>none
  |none=>none
 |_,_=>none
def EF (t:TypeId):Option IV:=match P.underlying t with
 |some .bool=>some .bool
 |some (.int _)=>some .int
 |some .string=>some .str
 |_=>none
def QW:List Field→Nat→Option (List IV)
 |[],_=>some []
 |f::fs,i=>match EF P f.type,QW fs (i+1)with
  | some k, some ks => if f.offset = i ∧ (f.name == "_") = false ∧ Bc P f.type = some 1 then some (k :: ks) else none
  |_,_=>none
def Wj (t:TypeId):IV:=match P.underlying t with
 |some .bool=>.bool
 |some (.int _)=>.int
 |some .string=>.str
 |some (.slice _)=>.slice
 |some (.pointer _)=>.ptr
 |some (.func _ _ _)=>.func
 |some (.map _ _)=>.map
 |some (.struct fs)=>match QW P fs.toList 0 with
  |some ks=>if P.eqGuardType P.depth t=false∧P.stoodInHeld t=false∧Bc P t=some ks.length then .flat ks else .other
  |none=>.other
 |_=>.other
def KY (fs:List Field):List (Nat×Operand)→Option (List (Nat×Nat×AO))
 |[]=>some []
 |(i,x)::ps=>match nth fs i,Ah x,KY fs ps with
  |some f,some a,some r=>match Bc P f.type with
   |some n=>some ((f.offset,n,a)::r)
   |none=>none
  |_,_,_=>none
def Hr (es:Nat):List (Nat×Operand)→Option (List (Nat×Nat×AO))
 |[]=>some []
 |(i,x)::ps=>match Ah x,Hr es ps with
  |some a,some r=>some ((i*es,es,a)::r)
  |_,_=>none
def IG:List (Nat×Operand)→Option (List (Nat×AO))
 |[]=>some []
 |(i,x)::ps=>match Ah x,IG ps with
  |some a,some r=>some ((i,a)::r)
  |_,_=>none
def EN:Option Operand→Option (Option AO)
 |none=>some none
 |some x=>(Ah x).map some
def isZero:Option Operand→Bool
 |some (.const (.int _ 0))=>true
 |_=>false
def Ue (m:Mode) (c:Call):Option BJ:=
 match c.callee,Bl c.args.toList with
 | .value (.func f),some args=>some (.call m f args)
 | .value (.tmp t),some args=>some (.F7 m (.tmp t) args)
 | .builtin .len,some [x]=>match nth c.argTypes.toList 0 with
   |some t=>match P.underlying t with
    |some .string=>some (.len .str x)
    |some (.slice _)=>some (.len .slice x)
    |some (.map _ _)=>some (.len .map x)
    |_=>none
   |none=>none
 | .builtin .min,some [x,y]=>some (.min x y)
 | .builtin .max,some [x,y]=>some (.max x y)
 | .builtin .append,some [x,y]=>match c.argTypes.toList with
   |[t,t']=>match P.underlying t with
    |some (.slice e)=>match Ea P e,P.info? e with
     |some (es,_),some i=>if 0<i.bytes∧t=t' then some (.append es i.bytes x y)else none
     |_,_=>none
    |_=>none
   |_=>none
 | .builtin .clear,some [x]=>match c.argTypes.toList with
   |[t]=>match P.underlying t with
    |some (.slice e)=>match Ea P e with
     |some (es,_)=>some (.clear es x)
     |none=>none
    |_=>none
   |_=>none
 | .builtin .delete,some [m,k]=>match c.argTypes.toList with
   |t::_=>match P.underlying t with
    |some (.map kt _)=>(EF P kt).map fun l=>.delete l m k
    |_=>none
   |_=>none
 | .builtin .cap,some [x]=>match nth c.argTypes.toList 0 with
   |some t=>match P.underlying t with
    |some (.slice _)=>some (.len .func x)
    |_=>none
   |none=>none
 |_,_=>none
def AcB:Option FB→Mode
 |some (.mode m)=>m
 |_=>.pure
def Ip (o:Oper) (ann:Option FB):Option BJ:=
 match o.op with
 | .move x=>(Ah x).map .WU
 | .assign x=>match ann with
   |some .own=>match x,P.underlying o.type with
    | .const (.slice none 0 0),some (.slice e)=>(Bc P e).map .Ij
    |_,_=>none
   |_=>(Ah x).map .WU
 | .pick c a b=>match Ah c,Ah a,Ah b with
   |some c,some a,some b=>some (.pick c a b)
   |_,_,_=>none
 | .alloc t=>match ann with
   |some (.AbF off e2)=>match Ea P t with
    |some (n,.agg cs)=>some (.I8 off e2 n cs)
    |_=>none
   |_=>(Ea P t).map fun(n,z)=>.alloc n z
 | .box t x=>match Bc P t,Ah x with
   |some n,some x=>some (.box n x)
   |_,_=>none
 | .build t parts=>match Ea P t with
   |some (_,.agg z)=>match P.underlying t with
    |some (.struct fs)=>if fs.toList.all (fun f=>(Bc P f.type).isSome)then(KY P fs.toList parts.toList).map (.build z)else none
    |some (.array _ e)=>match Bc P e with
     |some es=>(Hr es parts.toList).map (.build z)
     |none=>none
    |_=>none
   |_=>none
 | .buildSlice t len parts=>match P.underlying t with
   |some (.slice e)=>match Ea P e,IG parts.toList with
    |some (es,z),some ps=>if len*es≤16777216 then some (.lit (match ann with|some .own=>true|_=>false) es z len ps)else none
    |_,_=>none
   |_=>none
 | .load t a=>match X3 P t,Ah a with
   |some sz,some a=>some (.load sz a)
   |_,_=>none
 | .store t a x=>match Bc P t,Ah a,Ah x with
   |some n,some a,some x=>some (.store n a x)
   |_,_,_=>none
 | .nilCheck x=>(Ah x).map .Nu
 | .binOp op t x y _=>match Ah x,Ah y with
   |some x,some y=>some (.bin op (Wj P t) x y)
   |_,_=>none
 | .unOp op _ x=>(Ah x).map (.un op)
 | .convert src dst x=>match P.underlying src,P.underlying dst,Ah x with
   |some (.int _),some (.int k),some x=>some (.conv k x)
   |some .string,some .string,some x=>some (.convs x)
   |_,_,_=>none
 | .makeInterface t x=>match P.underlying t with
   |some (.interface _)=>none
   |some _=>(Ah x).map (.Aah t)
   |none=>none
 | .makeFunc (.func f) fs caps=>if fs.size=0 then(Bl caps.toList).map (.Yf f)else none
 | .makeMap _ none=>some .LK
 | .makeSlice t l c=>match P.underlying t with
   |some (.slice e)=>match Ea P e,P.info? e,Ah l,Ah c with
    |some (es,z),some i,some l,some c=>if 0<i.bytes then some (.Gu es i.bytes z l c)else none
    |_,_,_,_=>none
   |_=>none
 | .slice t x lo hi mx=>match P.underlying t,Ah x,mx with
   |some (.slice e),some x,none=>match Bc P e,EN lo,EN hi with
    |some es,some lo,some hi=>some (.slice es x lo hi)
    |_,_,_=>none
   |some .string,some x,none=>match EN lo,EN hi with
    |some lo,some hi=>some (.JG x lo hi)
    |_,_=>none
   |some (.slice e),some x,some mx=>if(lo.isNone||isZero lo)&&isZero hi&&isZero (some mx)&&(Bc P e).isSome then some (.OY x)else none
   |_,_,_=>none
 | .fieldAddr t x f=>match P.underlying t,Ah x with
   |some (.struct fs),some x=>match nth fs.toList f with
    |some fd=>(Bc P fd.type).map fun _=>.OW fd.offset x
    |none=>none
   |_,_=>none
 | .field t x f=>match P.underlying t,Ah x with
   |some (.struct fs),some x=>match nth fs.toList f with
    |some fd=>(X3 P fd.type).map fun sz=>.field fd.offset sz x
    |none=>none
   |_,_=>none
 | .indexAddr t x i=>match P.underlying t,Ah x,Ah i with
   |some (.slice e),some x,some i=>(Bc P e).map fun es=>.OX es x i
   |some (.array n e),some x,some i=>(Bc P e).map fun es=>.SX es n x i
   |_,_,_=>none
 | .index t x i=>match P.underlying t,Ah x,Ah i with
   |some .string,some x,some i=>some (.UG x i)
   |some (.array n e),some x,some i=>match Bc P e,X3 P e with
    |some es,some sz=>some (.Ye es n sz x i)
    |_,_=>none
   |_,_,_=>none
 | .lookup t m k OD=>match P.underlying t,Ah m,Ah k with
   |some (.map kt e),some m,some k=>match EF P kt,Ea P e with
    |some l,some (_,z)=>some (.lookup l z OD m k)
    |_,_=>none
   |_,_,_=>none
 | .mapUpdate t m k v| .insert t m k v=>match P.underlying t,Ah m,Ah k,Ah v with
   |some (.map kt _),some m,some k,some v=>(EF P kt).map fun l=>.mapset l m k v
   |_,_,_,_=>none
 | .extract x i=>(Ah x).map fun x=>.ext x i
 | .panic x=>(Ah x).map .panic
 | .call c=>Ue P (AcB ann) c
 |_=>none
def DZ (ops:Array Oper) (n:Nat):Option (Nat×Bool)→Option (Option (Nat×Bool))
 |none=>some none
 |some (j,b)=>match(ops[j]?).bind (·.dst)with
  |some t=>if t<n then some (some (t,b))else none
  |none=>none
def ZP (n:Nat):Option Nat→Bool
 |some d=>decide (d<n)
 |none=>true
def Dj (ops:Array Oper) (n:Nat) (an:List (Nat×FB)):List Oper→Nat→Option (List Aj)
 |[],_=>some []
 |o::os,i=>match Ip P o (Qk an i),DZ ops n o.guard,Dj ops n an os (i+1)with
  |some ao,some g,some r=>if ZP n o.dst then some (⟨o.dst,ao,g⟩::r)else none
  |_,_,_=>none
def AO.slots:AO→List Nat
 | .tmp t=>[t]
 | .cst _=>[]
def slotsOf (o:Aj):List Nat:=
 o.dst.toList++o.op.Bh.flatMap AO.slots++(match o.guard with|some (t,_)=>[t]|none=>[])
def SC (ops:Array Oper) (Bh:List Aj) (m:Nat):Bool:=
 let b:=Region.before ops
 (List.range ops.size).all fun j=>match ops[j]?,Bh[j]? with
    |some o,some ao=>
     (o.after.toList.all fun e=>!Region.binds .any e||decide (e.on<j))&&
     ((List.range ops.size).all fun i=>i==j||match(ops[i]?).bind (·.dst)with
       |some t=>!(slotsOf ao).contains t||(if i<j then(b.getD j 0).testBit i else(b.getD i 0).testBit j)
       |none=>true)&&
     (decide (j<m)||(List.range j).all fun i=>(b.getD j 0).testBit i)
    |_,_=>false
def SE (ops:Array Oper) (Bh:List Aj) (m f:Nat):Bool:=
 let b:=Region.before ops
 (List.range ops.size).all fun j=>match ops[j]?,Bh[j]? with
    |some o,some ao=>
     (o.after.toList.all fun e=>!Region.binds .any e||decide (e.on<j))&&
     ((List.range ops.size).all fun i=>i==j||match(ops[i]?).bind (·.dst)with
       |some t=>!(slotsOf ao).contains t||(if i<j then(b.getD j 0).testBit i else(b.getD i 0).testBit j)
       |none=>true)&&
     (decide (j<m)||(List.range j).all fun i=>i==f||(b.getD j 0).testBit i)
    |_,_=>false
def Dv (m:Nat) (os:List Aj):Bool:=(os.take m).all fun o=>o.op.Ez
def Jc (o:Aj):Nat:=match o.op.cls with
 |some .e=>0
 |some .r=>1
 |some .w=>2
 |some .a=>3
 |none=>4
def Aa6 (m:Nat) (os:List Aj):Bool:=(os.take m).all fun o=>Jc o != 4
def OE (ops:Array Oper) (os:List Aj) (m:Nat):List (Nat×Nat):=
 let b:=Region.before ops
 (List.range m).flatMap fun j=>((List.range j).filter fun i=>match os[i]?,os[j]? with
    |some oi,some oj=>!(b.getD j 0).testBit i&&Jc oi != 0&&Jc oj != 0&&(Jc oi != 1||Jc oj != 1)
    |_,_=>false).map fun i=>(i,j)
def Ib:Code→Nat
 | .region id _ _=>id
 | .seq a _=>Ib a
 | .cond _ a _=>Ib a
 | .block _ a=>Ib a
 | .loop a=>Ib a
 |_=>0
def Tt (ops:Array Oper) (Bh:List Aj) (m:Nat) (W pc:List Nat):Bool:=
 let b:=Region.before ops
 (match pc with
 |p::E=>(E.all fun i=>!Df i W)&&(List.range ops.size).all fun j=>decide (j≤p)||Df j E||(b.getD j 0).testBit p
 |[]=>true)&&
 (List.range ops.size).all fun j=>match ops[j]?,Bh[j]? with
    |some o,some ao=>
     (o.after.toList.all fun e=>!Region.binds .any e||decide (e.on<j))&&
     ((List.range ops.size).all fun i=>i==j||match(ops[i]?).bind (·.dst)with
       |some t=>!(slotsOf ao).contains t||(if i<j then(b.getD j 0).testBit i else(b.getD i 0).testBit j)
       |none=>true)&&
     (decide (j<m)||flt ao||Df j W||(List.range j).all fun i=>(match Bh[i]? with|some ai=>flt ai|none=>false)||Df i W||(b.getD j 0).testBit i)
    |_,_=>false
def JK:CP:=.cond (.cst (.int .i64 0)) .skip .skip
def Ho (l:IV) (d1 d2 m k x:Nat):List Aj:=[⟨some d1,.WU (.cst .junk),none⟩,⟨some d2,.WU (.cst .junk),none⟩,⟨none,.mapset l (.tmp m) (.tmp k) (.tmp x),none⟩]
def Ql (ops:Array Oper) (m:Nat):Option (TypeId×Nat×Nat×Nat×Nat×Nat):=
 match ops[m]?,ops[m+1]?,ops[m+2]? with
 |some o1,some o2,some o3=>match o1.op,o1.dst,o1.guard,o2.op,o2.dst,o2.guard with
  | .mapEntry t (.tmp tm) (.tmp tk),some d1,none,.extract (.tmp e1) 1,some d2,none=>match o3.op,o3.dst,o3.guard with
    | .entryStore _ (.tmp tm') (.tmp e2) (.tmp tx),none,none=>
      if e1=d1∧e2=d2∧tm'=tm∧d1≠d2∧(tm≠d1∧tm≠d2)∧(tk≠d1∧tk≠d2)∧(tx≠d1∧tx≠d2)∧tm≠tx∧tk≠tx then some (t,d1,d2,tm,tk,tx)else none
    |_,_,_=>none
  |_,_,_,_,_,_=>none
 |_,_,_=>none
def OQ (ops:Array Oper) (m tx d1 d2:Nat):Option (Nat×Nat):=
 match(List.range m).find? fun i=>(ops[i]?).bind (·.dst)==some tx with
 |some f=>match ops[f]? with
  |some o=>match o.op,o.guard with
   | .move (.tmp ty),none=>if o.dst=some tx∧ty≠d1∧ty≠d2∧f<m∧((Region.before ops).getD (m+2) 0).testBit f=true then some (f,ty)else none
   |_,_=>none
  |none=>none
 |none=>none
def Abn (ops:Array Oper) (Bh:List Aj) (m:Nat):Bool:=match Ql ops m with
 |some (_,d1,d2,_,_,tx)=>match OQ ops m tx d1 d2 with
  |some (f,_)=>SE ops Bh m f&&Dv m Bh
  |none=>false
 |none=>false
def VQ (n:Nat) (an:List (Nat×FB)) (ops:Array Oper) (m:Nat):Option (List Aj):=
 match Ql ops m with
 |some (t,d1,d2,tm,tk,tx)=>match P.underlying t with
  |some (.map kt e)=>match EF P kt,Ea P e,Dj P ops n an (ops.toList.take m) 0,Dj P ops n an (ops.toList.drop (m+3)) (m+3)with
   |some l,some _,some hd,some tl=>if d1<n∧d2<n then some (hd++(Ho l d1 d2 tm tk tx++tl))else none
   |_,_,_,_=>none
  |_=>none
 |none=>none
def D7 (n:Nat) (an:List Io):Code→Option CP
 | .skip=>some .skip
 | .region id ops draw=>
   let a:=DK an id
   match Dj P ops n a.ops ops.toList 0 with
   |some os=>if draw then
     let m:=a.head.getD os.length
     if a.par then
          if SC ops os m&&Aa6 m os&&decide (m≤ops.size)then some (.par m (OE ops os m) a.IW os a.live a.trunc)else none
     else if a.mix then
          if Tt ops os m a.wob a.pc&&Dv m os then some (.mix m a.wob a.pc a.IW os a.live a.trunc)else none
     else if SC ops os m&&Dv m os then some (.region (some m) a.IW os a.live a.trunc)else none
    else some (.region none a.IW os a.live a.trunc)
   |none=>match a.head with
    |some m=>match VQ P n a.ops ops m with
     |some os=>if draw&&Abn ops os m then some (.region (some m) a.IW os a.live a.trunc)else some JK
     |none=>some JK
    |none=>some JK
 | .seq x y=>match D7 n an x,D7 n an y with
   |some a,some b=>some (.seq a b)
   |_,_=>none
 | .cond c x y=>match Ah c,D7 n an x,D7 n an y with
   |some c,some a,some b=>some (.cond c a b)
   |_,_,_=>none
 | .block id x=>(D7 n an x).map (.block id)
 | .loop x=>(D7 n an x).map (.loop (DK an (Ib x)).hdr)
 | .exit id=>some (.exit id)
 | .ret=>some .ret
 |_=>some JK
def EH (n:Nat):List ResultVar→Option (List Ru)
 |[]=>some []
 | .tmp t::rs=>if t<n then(EH n rs).map (.tmp t::·)else none
 | .cell a t::rs=>match X3 P t,EH n rs with
   |some sz,some r=>some (.cell a sz::r)
   |_,_=>none
def N7 (an:List Io) (f:Func):Option Gt:=
 match f.body with
 |some b=>match D7 P f.ntmps an b,EH P f.ntmps f.results.toList with
  |some c,some rs=>if f.params.size+f.nfree≤f.ntmps then some ⟨f.params.size+f.nfree,c,rs⟩else none
  |_,_=>none
 |none=>none
def Hy:List Aj→Nat→List (Nat×FB)
 |[],_=>[]
 |o::os,i=>match o.op with
  | .call .pure _ _=>Hy os (i+1)
  | .call m _ _=>(i,.mode m)::Hy os (i+1)
  | .F7 .pure _ _=>Hy os (i+1)
  | .F7 m _ _=>(i,.mode m)::Hy os (i+1)
  | .Ij _=>(i,.own)::Hy os (i+1)
  | .lit true _ _ _ _=>(i,.own)::Hy os (i+1)
  | .I8 off e2 _ _=>(i,.AbF off e2)::Hy os (i+1)
  |_=>Hy os (i+1)
def ZQ (i:Nat) (l:List Nat):List Io→List Io
 |[]=>[]
 |a::r=>if a.id=i then{a with hdr:=l}::r else a::ZQ i l r
def anZ:Code→CP→List Io
 | .region id _ _,.region h IW ops live tr=>[{id:=id,head:=h,IW:=IW,live:=live,trunc:=tr,ops:=Hy ops 0}]
 | .region id _ _,.par m _ IW ops live tr=>[{id:=id,head:=some m,IW:=IW,live:=live,trunc:=tr,ops:=Hy ops 0,par:=true}]
 | .region id _ _,.mix m W pc IW ops live tr=>[{id:=id,wob:=W,pc:=pc,head:=some m,IW:=IW,live:=live,trunc:=tr,ops:=Hy ops 0,mix:=true}]
 | .seq a b,.seq x y=>anZ a x++anZ b y
 | .cond _ a b,.cond _ x y=>anZ a x++anZ b y
 | .block _ a,.block _ x=>anZ a x
 | .loop a,.loop live x=>ZQ (Ib a) live (anZ a x)
 |_,_=>[]
def anF (f:Func) (a:Gt):List Io:=match f.body with
 |some b=>anZ b a.body
 |none=>[]
def cok (f:Func) (a:Gt):Option Gt:=N7 P (anF f a) f
end AI
end Go.Proofs.YtjjhejbffgaabaaGreatDoor
