/- From the model's code to the abstract interpreter's: the types' tables are looked up once, the places of variables are marked as told. -/
import Derived.Test.YtegcpbncohoflaaGreatDoorGCore
namespace Go.Proofs.YtegcpbncohoflaaGreatDoor
namespace AI
inductive EX where
 |own
 |ZL (off es:Nat)
 |mode (m:Mode)
 deriving Inhabited
structure Il where
 id:Nat
 head:Option Nat:=none
 H8:List Nat:=[]
 live:List Nat:=[]
 trunc:Option Nat:=none
 ops:List (Nat×EX):=[]
 hdr:List Nat:=[]
 par:Bool:=false
 mix:Bool:=false
 YX:List Nat:=[]
 pc:List Nat:=[]
 deriving Inhabited
def Oj:List (Nat×EX)→Nat→Option EX
 |[],_=>none
 |(j,a)::r,i=>if i=j then some a else Oj r i
def Du:List Il→Nat→Il
 |[],i=>{id:=i}
 |a::r,i=>if a.id=i then a else Du r i
def Ko:Value→Option AV
 | .bool b=>some (.bool b)
 | .int k n=>some (.int k n)
 | .string s=>some (.str s.data.toList)
 | .slice none 0 0=>some (.sl false [])
 | .pointer none=>some .G9
 | .map none=>some .Cb
 | .nilFunc=>some .Es
 | .nilIface=>some .Fh
 | .func (.func f) fs cs=>if fs.size=0∧cs.size=0 then some (.fn f [])else none
 |_=>none
def ofValues:List Value→Option (List AV)
 |[]=>some []
 |v::vs=>match Ko v,ofValues vs with
  |some a,some b=>some (a::b)
  |_,_=>none
def ofValue:Value→Option AV
 | .agg cs=>(ofValues cs.toList).map .agg
 |v=>Ko v
def Ak:Operand→Option AO
 | .tmp t=>some (.tmp t)
 | .const v=>(ofValue v).map .cst
 | .func f=>some (.cst (.fn f []))
 | .global _=>none
def Bc:List Operand→Option (List AO)
 |[]=>some []
 |v::vs=>match Ak v,Bc vs with
  |some a,some b=>some (a::b)
  |_,_=>none
variable (P:Program)
def Qw (t:TypeId):Bool:=match P.underlying t with
 |some (.struct _)|some (.array _ _)=>true
 |_=>false
def AY (t:TypeId):Option Nat:=match P.info? t with
 |some i=>if 0<i.size then some i.size else none
 |none=>none
def Wp (t:TypeId):Option (Option Nat):=match P.underlying t,AY P t with
 |some (.struct _),some n=>some (some n)
 |some (.array _ _),some n=>some (some n)
 |some _,some 1=>some none
 |_,_=>none
def DU (t:TypeId):Option (Nat×AV):=match P.info? t,AY P t with
 |some i,some n=>match i.zero with
  |some z=>match ofValue z with
   |some v=>if v.cells.length=n then some (n,v)else none
   |none=>none
  |none=>none
 |_,_=>none
def Eb (t:TypeId):Option H7:=match P.underlying t with
 |some .bool=>some .bool
 |some (.int _)=>some .int
 |some .string=>some .str
 |_=>none
def PU:List Field→Nat→Option (List H7)
 |[],_=>some []
 |f::fs,i=>match Eb P f.type,PU fs (i+1)with
  | some k, some ks => if f.offset = i ∧ (f.name == "_") = false ∧ AY P f.type = some 1 then some (k :: ks) else none
  |_,_=>none
def UQ (t:TypeId):H7:=match P.underlying t with
 |some .bool=>.bool
 |some (.int _)=>.int
 |some .string=>.str
 |some (.slice _)=>.slice
 |some (.pointer _)=>.ptr
 |some (.func _ _ _)=>.func
 |some (.map _ _)=>.map
 |some (.struct fs)=>match PU P fs.toList 0 with
  |some ks=>if P.eqGuardType P.depth t=false∧P.stoodInHeld t=false∧AY P t=some ks.length then .flat ks else .other
  |none=>.other
 |_=>.other
def JQ (fs:List Field):List (Nat×Operand)→Option (List (Nat×Nat×AO))
 |[]=>some []
 |(i,x)::ps=>match nth fs i,Ak x,JQ fs ps with
  |some f,some a,some r=>match AY P f.type with
   |some n=>some ((f.offset,n,a)::r)
   |none=>none
  |_,_,_=>none
def Gw (es:Nat):List (Nat×Operand)→Option (List (Nat×Nat×AO))
 |[]=>some []
 |(i,x)::ps=>match Ak x,Gw es ps with
  |some a,some r=>some ((i*es,es,a)::r)
  |_,_=>none
def Hu:List (Nat×Operand)→Option (List (Nat×AO))
 |[]=>some []
 |(i,x)::ps=>match Ak x,Hu ps with
  |some a,some r=>some ((i,a)::r)
  |_,_=>none
def Eo:Option Operand→Option (Option AO)
 |none=>some none
 |some x=>(Ak x).map some
def isZero:Option Operand→Bool
 |some (.const (.int _ 0))=>true
 |_=>false
def Si (m:Mode) (c:Call):Option BG:=
 match c.callee,Bc c.args.toList with
 | .value (.func f),some args=>some (.call m f args)
 | .value (.tmp t),some args=>some (.Fj m (.tmp t) args)
 | .builtin .len,some [x]=>match nth c.argTypes.toList 0 with
   |some t=>match P.underlying t with
    |some .string=>some (.len .str x)
    |some (.slice _)=>some (.len .slice x)
    |some (.map _ _)=>some (.len .map x)
    |_=>none
   |none=>none
 | .builtin .min,some [x,y]=>some (.min x y)
 | .builtin .max,some [x,y]=>some (.max x y)
 | .builtin .append,some [x,y]=>match c.argTypes.toList with
   |[t,t']=>match P.underlying t with
    |some (.slice e)=>match DU P e,P.info? e with
     |some (es,_),some i=>if 0<i.bytes∧t=t' then some (.append es i.bytes x y)else none
     |_,_=>none
    |_=>none
   |_=>none
 | .builtin .clear,some [x]=>match c.argTypes.toList with
   |[t]=>match P.underlying t with
    |some (.slice e)=>match DU P e with
     |some (es,_)=>some (.clear es x)
     |none=>none
    |_=>none
   |_=>none
 | .builtin .delete,some [m,k]=>match c.argTypes.toList with
   |t::_=>match P.underlying t with
    |some (.map kt _)=>(Eb P kt).map fun l=>.delete l m k
    |_=>none
   |_=>none
 | .builtin .cap,some [x]=>match nth c.argTypes.toList 0 with
   |some t=>match P.underlying t with
    |some (.slice _)=>some (.len .func x)
    |_=>none
   |none=>none
 |_,_=>none
def AaE:Option EX→Mode
 |some (.mode m)=>m
 |_=>.pure
def Ho (o:Oper) (ann:Option EX):Option BG:=
 match o.op with
 | .move x=>(Ak x).map .Xk
 | .assign x=>match ann with
   |some .own=>match x,P.underlying o.type with
    | .const (.slice none 0 0),some (.slice e)=>(AY P e).map .Hg
    |_,_=>none
   |_=>(Ak x).map .Xk
 | .pick c a b=>match Ak c,Ak a,Ak b with
   |some c,some a,some b=>some (.pick c a b)
   |_,_,_=>none
 | .alloc t=>match ann with
   |some (.ZL off e2)=>match DU P t with
    |some (n,.agg cs)=>some (.Ic off e2 n cs)
    |_=>none
   |_=>(DU P t).map fun(n,z)=>.alloc n z
 | .box t x=>match AY P t,Ak x with
   |some n,some x=>some (.box n x)
   |_,_=>none
 | .build t parts=>match DU P t with
   |some (_,.agg z)=>match P.underlying t with
    |some (.struct fs)=>if fs.toList.all (fun f=>(AY P f.type).isSome)then(JQ P fs.toList parts.toList).map (.build z)else none
    |some (.array _ e)=>match AY P e with
     |some es=>(Gw es parts.toList).map (.build z)
     |none=>none
    |_=>none
   |_=>none
 | .buildSlice t len parts=>match P.underlying t with
   |some (.slice e)=>match DU P e,Hu parts.toList with
    |some (es,z),some ps=>if len*es≤16777216 then some (.lit (match ann with|some .own=>true|_=>false) es z len ps)else none
    |_,_=>none
   |_=>none
 | .load t a=>match Wp P t,Ak a with
   |some sz,some a=>some (.load sz a)
   |_,_=>none
 | .store t a x=>match AY P t,Ak a,Ak x with
   |some n,some a,some x=>some (.store n a x)
   |_,_,_=>none
 | .nilCheck x=>(Ak x).map .LK
 | .binOp op t x y _=>match Ak x,Ak y with
   |some x,some y=>some (.bin op (UQ P t) x y)
   |_,_=>none
 | .unOp op _ x=>(Ak x).map (.un op)
 | .convert src dst x=>match P.underlying src,P.underlying dst,Ak x with
   |some (.int _),some (.int k),some x=>some (.conv k x)
   |some .string,some .string,some x=>some (.convs x)
   |_,_,_=>none
 | .makeInterface t x=>match P.underlying t with
   |some (.interface _)=>none
   |some _=>(Ak x).map (.YZ t)
   |none=>none
 | .makeFunc (.func f) fs caps=>if fs.size=0 then(Bc caps.toList).map (.XP f)else none
 | .makeMap _ none=>some .Kw
 | .makeSlice t l c=>match P.underlying t with
   |some (.slice e)=>match DU P e,P.info? e,Ak l,Ak c with
    |some (es,z),some i,some l,some c=>if 0<i.bytes then some (.F7 es i.bytes z l c)else none
    |_,_,_,_=>none
   |_=>none
 | .slice t x lo hi mx=>match P.underlying t,Ak x,mx with
   |some (.slice e),some x,none=>match AY P e,Eo lo,Eo hi with
    |some es,some lo,some hi=>some (.slice es x lo hi)
    |_,_,_=>none
   |some .string,some x,none=>match Eo lo,Eo hi with
    |some lo,some hi=>some (.I8 x lo hi)
    |_,_=>none
   |some (.slice e),some x,some mx=>if(lo.isNone||isZero lo)&&isZero hi&&isZero (some mx)&&(AY P e).isSome then some (.Ol x)else none
   |_,_,_=>none
 | .fieldAddr t x f=>match P.underlying t,Ak x with
   |some (.struct fs),some x=>match nth fs.toList f with
    |some fd=>(AY P fd.type).map fun _=>.NQ fd.offset x
    |none=>none
   |_,_=>none
 | .field t x f=>match P.underlying t,Ak x with
   |some (.struct fs),some x=>match nth fs.toList f with
    |some fd=>(Wp P fd.type).map fun sz=>.field fd.offset sz x
    |none=>none
   |_,_=>none
 | .indexAddr t x i=>match P.underlying t,Ak x,Ak i with
   |some (.slice e),some x,some i=>(AY P e).map fun es=>.NT es x i
   |some (.array n e),some x,some i=>(AY P e).map fun es=>.Ro es n x i
   |_,_,_=>none
 | .index t x i=>match P.underlying t,Ak x,Ak i with
   |some .string,some x,some i=>some (.TV x i)
   |some (.array n e),some x,some i=>match AY P e,Wp P e with
    |some es,some sz=>some (.Xb es n sz x i)
    |_,_=>none
   |_,_,_=>none
 | .lookup t m k Nv=>match P.underlying t,Ak m,Ak k with
   |some (.map kt e),some m,some k=>match Eb P kt,DU P e with
    |some l,some (_,z)=>some (.lookup l z Nv m k)
    |_,_=>none
   |_,_,_=>none
 | .mapUpdate t m k v| .insert t m k v=>match P.underlying t,Ak m,Ak k,Ak v with
   |some (.map kt _),some m,some k,some v=>(Eb P kt).map fun l=>.mapset l m k v
   |_,_,_,_=>none
 | .extract x i=>(Ak x).map fun x=>.ext x i
 | .panic x=>(Ak x).map .panic
 | .call c=>Si P (AaE ann) c
 |_=>none
def DC (ops:Array Oper) (n:Nat):Option (Nat×Bool)→Option (Option (Nat×Bool))
 |none=>some none
 |some (j,b)=>match(ops[j]?).bind (·.dst)with
  |some t=>if t<n then some (some (t,b))else none
  |none=>none
def XQ (n:Nat):Option Nat→Bool
 |some d=>decide (d<n)
 |none=>true
def CU (ops:Array Oper) (n:Nat) (an:List (Nat×EX)):List Oper→Nat→Option (List Am)
 |[],_=>some []
 |o::os,i=>match Ho P o (Oj an i),DC ops n o.guard,CU ops n an os (i+1)with
  |some ao,some g,some r=>if XQ n o.dst then some (⟨o.dst,ao,g⟩::r)else none
  |_,_,_=>none
def AO.slots:AO→List Nat
 | .tmp t=>[t]
 | .cst _=>[]
def slotsOf (o:Am):List Nat:=
 o.dst.toList++o.op.Bd.flatMap AO.slots++(match o.guard with|some (t,_)=>[t]|none=>[])
def QJ (ops:Array Oper) (Bd:List Am) (m:Nat):Bool:=
 let b:=Region.before ops
 (List.range ops.size).all fun j=>match ops[j]?,Bd[j]? with
    |some o,some ao=>
     (o.after.toList.all fun e=>!Region.binds .any e||decide (e.on<j))&&
     ((List.range ops.size).all fun i=>i==j||match(ops[i]?).bind (·.dst)with
       |some t=>!(slotsOf ao).contains t||(if i<j then(b.getD j 0).testBit i else(b.getD i 0).testBit j)
       |none=>true)&&
     (decide (j<m)||(List.range j).all fun i=>(b.getD j 0).testBit i)
    |_,_=>false
def QK (ops:Array Oper) (Bd:List Am) (m f:Nat):Bool:=
 let b:=Region.before ops
 (List.range ops.size).all fun j=>match ops[j]?,Bd[j]? with
    |some o,some ao=>
     (o.after.toList.all fun e=>!Region.binds .any e||decide (e.on<j))&&
     ((List.range ops.size).all fun i=>i==j||match(ops[i]?).bind (·.dst)with
       |some t=>!(slotsOf ao).contains t||(if i<j then(b.getD j 0).testBit i else(b.getD i 0).testBit j)
       |none=>true)&&
     (decide (j<m)||(List.range j).all fun i=>i==f||(b.getD j 0).testBit i)
    |_,_=>false
def Dc (m:Nat) (os:List Am):Bool:=(os.take m).all fun o=>o.op.Ea
def Io (o:Am):Nat:=match o.op.cls with
 |some .e=>0
 |some .r=>1
 |some .w=>2
 |some .a=>3
 |none=>4
def Y0 (m:Nat) (os:List Am):Bool:=(os.take m).all fun o=>Io o != 4
def NC (ops:Array Oper) (os:List Am) (m:Nat):List (Nat×Nat):=
 let b:=Region.before ops
 (List.range m).flatMap fun j=>((List.range j).filter fun i=>match os[i]?,os[j]? with
    |some oi,some oj=>!(b.getD j 0).testBit i&&Io oi != 0&&Io oj != 0&&(Io oi != 1||Io oj != 1)
    |_,_=>false).map fun i=>(i,j)
def G5:Code→Nat
 | .region id _ _=>id
 | .seq a _=>G5 a
 | .cond _ a _=>G5 a
 | .block _ a=>G5 a
 | .loop a=>G5 a
 |_=>0
def Sj (ops:Array Oper) (Bd:List Am) (m:Nat) (W pc:List Nat):Bool:=
 let b:=Region.before ops
 (match pc with
 |p::E=>(E.all fun i=>!CQ i W)&&(List.range ops.size).all fun j=>decide (j≤p)||CQ j E||(b.getD j 0).testBit p
 |[]=>true)&&
 (List.range ops.size).all fun j=>match ops[j]?,Bd[j]? with
    |some o,some ao=>
     (o.after.toList.all fun e=>!Region.binds .any e||decide (e.on<j))&&
     ((List.range ops.size).all fun i=>i==j||match(ops[i]?).bind (·.dst)with
       |some t=>!(slotsOf ao).contains t||(if i<j then(b.getD j 0).testBit i else(b.getD i 0).testBit j)
       |none=>true)&&
     (decide (j<m)||flt ao||CQ j W||(List.range j).all fun i=>(match Bd[i]? with|some ai=>flt ai|none=>false)||CQ i W||(b.getD j 0).testBit i)
    |_,_=>false
def Jg:C9:=.cond (.cst (.int .i64 0)) .skip .skip
def Gx (l:H7) (d1 d2 m k x:Nat):List Am:=[⟨some d1,.Xk (.cst .junk),none⟩,⟨some d2,.Xk (.cst .junk),none⟩,⟨none,.mapset l (.tmp m) (.tmp k) (.tmp x),none⟩]
def Om (ops:Array Oper) (m:Nat):Option (TypeId×Nat×Nat×Nat×Nat×Nat):=
 match ops[m]?,ops[m+1]?,ops[m+2]? with
 |some o1,some o2,some o3=>match o1.op,o1.dst,o1.guard,o2.op,o2.dst,o2.guard with
  | .mapEntry t (.tmp tm) (.tmp tk),some d1,none,.extract (.tmp e1) 1,some d2,none=>match o3.op,o3.dst,o3.guard with
    | .entryStore _ (.tmp tm') (.tmp e2) (.tmp tx),none,none=>
      if e1=d1∧e2=d2∧tm'=tm∧d1≠d2∧(tm≠d1∧tm≠d2)∧(tk≠d1∧tk≠d2)∧(tx≠d1∧tx≠d2)∧tm≠tx∧tk≠tx then some (t,d1,d2,tm,tk,tx)else none
    |_,_,_=>none
  |_,_,_,_,_,_=>none
 |_,_,_=>none
def ND (ops:Array Oper) (m tx d1 d2:Nat):Option (Nat×Nat):=
 match(List.range m).find? fun i=>(ops[i]?).bind (·.dst)==some tx with
 |some f=>match ops[f]? with
  |some o=>match o.op,o.guard with
   | .move (.tmp ty),none=>if o.dst=some tx∧ty≠d1∧ty≠d2∧f<m∧((Region.before ops).getD (m+2) 0).testBit f=true then some (f,ty)else none
   |_,_=>none
  |none=>none
 |none=>none
def ZM (ops:Array Oper) (Bd:List Am) (m:Nat):Bool:=match Om ops m with
 |some (_,d1,d2,_,_,tx)=>match ND ops m tx d1 d2 with
  |some (f,_)=>QK ops Bd m f&&Dc m Bd
  |none=>false
 |none=>false
def Va (n:Nat) (an:List (Nat×EX)) (ops:Array Oper) (m:Nat):Option (List Am):=
 match Om ops m with
 |some (t,d1,d2,tm,tk,tx)=>match P.underlying t with
  |some (.map kt e)=>match Eb P kt,DU P e,CU P ops n an (ops.toList.take m) 0,CU P ops n an (ops.toList.drop (m+3)) (m+3)with
   |some l,some _,some hd,some tl=>if d1<n∧d2<n then some (hd++(Gx l d1 d2 tm tk tx++tl))else none
   |_,_,_,_=>none
  |_=>none
 |none=>none
def Ef (n:Nat) (an:List Il):Code→Option C9
 | .skip=>some .skip
 | .region id ops draw=>
   let a:=Du an id
   match CU P ops n a.ops ops.toList 0 with
   |some os=>if draw then
     let m:=a.head.getD os.length
     if a.par then
          if QJ ops os m&&Y0 m os&&decide (m≤ops.size)then some (.par m (NC ops os m) a.H8 os a.live a.trunc)else none
     else if a.mix then
          if Sj ops os m a.YX a.pc&&Dc m os then some (.mix m a.YX a.pc a.H8 os a.live a.trunc)else none
     else if QJ ops os m&&Dc m os then some (.region (some m) a.H8 os a.live a.trunc)else none
    else some (.region none a.H8 os a.live a.trunc)
   |none=>match a.head with
    |some m=>match Va P n a.ops ops m with
     |some os=>if draw&&ZM ops os m then some (.region (some m) a.H8 os a.live a.trunc)else some Jg
     |none=>some Jg
    |none=>some Jg
 | .seq x y=>match Ef n an x,Ef n an y with
   |some a,some b=>some (.seq a b)
   |_,_=>none
 | .cond c x y=>match Ak c,Ef n an x,Ef n an y with
   |some c,some a,some b=>some (.cond c a b)
   |_,_,_=>none
 | .block id x=>(Ef n an x).map (.block id)
 | .loop x=>(Ef n an x).map (.loop (Du an (G5 x)).hdr)
 | .exit id=>some (.exit id)
 | .ret=>some .ret
 |_=>some Jg
def Gg (n:Nat):List ResultVar→Option (List Sl)
 |[]=>some []
 | .tmp t::rs=>if t<n then(Gg n rs).map (.tmp t::·)else none
 | .cell a t::rs=>match Wp P t,Gg n rs with
   |some sz,some r=>some (.cell a sz::r)
   |_,_=>none
def MR (an:List Il) (f:Func):Option FQ:=
 match f.body with
 |some b=>match Ef P f.ntmps an b,Gg P f.ntmps f.results.toList with
  |some c,some rs=>if f.params.size+f.nfree≤f.ntmps then some ⟨f.params.size+f.nfree,c,rs⟩else none
  |_,_=>none
 |none=>none
def Gy:List Am→Nat→List (Nat×EX)
 |[],_=>[]
 |o::os,i=>match o.op with
  | .call .pure _ _=>Gy os (i+1)
  | .call m _ _=>(i,.mode m)::Gy os (i+1)
  | .Fj .pure _ _=>Gy os (i+1)
  | .Fj m _ _=>(i,.mode m)::Gy os (i+1)
  | .Hg _=>(i,.own)::Gy os (i+1)
  | .lit true _ _ _ _=>(i,.own)::Gy os (i+1)
  | .Ic off e2 _ _=>(i,.ZL off e2)::Gy os (i+1)
  |_=>Gy os (i+1)
def XR (i:Nat) (l:List Nat):List Il→List Il
 |[]=>[]
 |a::r=>if a.id=i then{a with hdr:=l}::r else a::XR i l r
def anZ:Code→C9→List Il
 | .region id _ _,.region h H8 ops live tr=>[{id:=id,head:=h,H8:=H8,live:=live,trunc:=tr,ops:=Gy ops 0}]
 | .region id _ _,.par m _ H8 ops live tr=>[{id:=id,head:=some m,H8:=H8,live:=live,trunc:=tr,ops:=Gy ops 0,par:=true}]
 | .region id _ _,.mix m W pc H8 ops live tr=>[{id:=id,YX:=W,pc:=pc,head:=some m,H8:=H8,live:=live,trunc:=tr,ops:=Gy ops 0,mix:=true}]
 | .seq a b,.seq x y=>anZ a x++anZ b y
 | .cond _ a b,.cond _ x y=>anZ a x++anZ b y
 | .block _ a,.block _ x=>anZ a x
 | .loop a,.loop live x=>XR (G5 a) live (anZ a x)
 |_,_=>[]
def anF (f:Func) (a:FQ):List Il:=match f.body with
 |some b=>anZ b a.body
 |none=>[]
def cok (f:Func) (a:FQ):Option FQ:=MR P (anF f a) f
end AI
end Go.Proofs.YtegcpbncohoflaaGreatDoor
