/- From the model's code to the abstract interpreter's: the types' tables are looked up once, the places of variables are marked as told. -/
import Derived.Test.YtjjhejbffgaabaaGreatDoorPCore
namespace Go.Proofs.YtjjhejbffgaabaaGreatDoor
namespace AI
inductive FZ where
 |own
 |AcF (off es:Nat)
 |mode (m:Mode)
 deriving Inhabited
structure IQ where
 id:Nat
 head:Option Nat:=none
 Jk:List Nat:=[]
 live:List Nat:=[]
 trunc:Option Nat:=none
 ops:List (Nat×FZ):=[]
 hdr:List Nat:=[]
 par:Bool:=false
 mix:Bool:=false
 wob:List Nat:=[]
 pc:List Nat:=[]
 deriving Inhabited
def Qg:List (Nat×FZ)→Nat→Option FZ
 |[],_=>none
 |(j,a)::r,i=>if i=j then some a else Qg r i
def D5:List IQ→Nat→IQ
 |[],i=>{id:=i}
 |a::r,i=>if a.id=i then a else D5 r i
def MX:Value→Option AV
 | .bool b=>some (.bool b)
 | .int k n=>some (.int k n)
 | .string s=>some (.str s.data.toList)
 | .slice none 0 0=>some (.sl false [])
 | .pointer none=>some .II
 | .map none=>some .Di
 | .nilFunc=>some .Fp
 | .nilIface=>some .Gs
 | .func (.func f) fs cs=>if fs.size=0∧cs.size=0 then some (.fn f [])else none
 |_=>none
def ofValues:List Value→Option (List AV)
 |[]=>some []
 |v::vs=>match MX v,ofValues vs with
  |some a,some b=>some (a::b)
  |_,_=>none
def ofValue:Value→Option AV
 | .agg cs=>(ofValues cs.toList).map .agg
 |v=>MX v
def Ak:Operand→Option AO
 | .tmp t=>some (.tmp t)
 | .const v=>(ofValue v).map .cst
 | .func f=>some (.cst (.fn f []))
 | .global _=>none
def BF:List Operand→Option (List AO)
 |[]=>some []
 |v::vs=>match Ak v,BF vs with
  |some a,some b=>some (a::b)
  |_,_=>none
variable (P:Program)
def TG (t:TypeId):Bool:=match P.underlying t with
 |some (.struct _)|some (.array _ _)=>true
 |_=>false
def Bh (t:TypeId):Option Nat:=match P.info? t with
 |some i=>if 0<i.size then some i.size else none
 |none=>none
def Zc (t:TypeId):Option (Option Nat):=match P.underlying t,Bh P t with
 |some (.struct _),some n=>some (some n)
 |some (.array _ _),some n=>some (some n)
 |some _,some 1=>some none
 |_,_=>none
def Em (t:TypeId):Option (Nat×AV):=match P.info? t,Bh P t with
 |some i,some n=>match i.zero with
  |some z=>match ofValue z with
   |some v=>if v.cells.length=n then some (n,v)else none
   |none=>none
  |none=>none
 |_,_=>none
def EW (t:TypeId):Option Jj:=match P.underlying t with
 |some .bool=>some .bool
 |some (.int _)=>some .int
 |some .string=>some .str
 |_=>none
def RH:List Field→Nat→Option (List Jj)
 |[],_=>some []
 |f::fs,i=>match EW P f.type,RH fs (i+1)with
  | some k, some ks => if f.offset = i ∧ (f.name == "_") = false ∧ Bh P f.type = some 1 then some (k :: ks) else none
  |_,_=>none
def XE (t:TypeId):Jj:=match P.underlying t with
 |some .bool=>.bool
 |some (.int _)=>.int
 |some .string=>.str
 |some (.slice _)=>.slice
 |some (.pointer _)=>.ptr
 |some (.func _ _ _)=>.func
 |some (.map _ _)=>.map
 |some (.struct fs)=>match RH P fs.toList 0 with
  |some ks=>if P.eqGuardType P.depth t=false∧P.stoodInHeld t=false∧Bh P t=some ks.length then .flat ks else .other
  |none=>.other
 |_=>.other
def LV (fs:List Field):List (Nat×Operand)→Option (List (Nat×Nat×AO))
 |[]=>some []
 |(i,x)::ps=>match nth fs i,Ak x,LV fs ps with
  |some f,some a,some r=>match Bh P f.type with
   |some n=>some ((f.offset,n,a)::r)
   |none=>none
  |_,_,_=>none
def H9 (es:Nat):List (Nat×Operand)→Option (List (Nat×Nat×AO))
 |[]=>some []
 |(i,x)::ps=>match Ak x,H9 es ps with
  |some a,some r=>some ((i*es,es,a)::r)
  |_,_=>none
def I9:List (Nat×Operand)→Option (List (Nat×AO))
 |[]=>some []
 |(i,x)::ps=>match Ak x,I9 ps with
  |some a,some r=>some ((i,a)::r)
  |_,_=>none
def Fg:Option Operand→Option (Option AO)
 |none=>some none
 |some x=>(Ak x).map some
def isZero:Option Operand→Bool
 |some (.const (.int _ 0))=>true
 |_=>false
def UK (m:Mode) (c:Call):Option BR:=
 match c.callee,BF c.args.toList with
 | .value (.func f),some args=>some (.call m f args)
 | .value (.tmp t),some args=>some (.Gt m (.tmp t) args)
 | .builtin .len,some [x]=>match nth c.argTypes.toList 0 with
   |some t=>match P.underlying t with
    |some .string=>some (.len .str x)
    |some (.slice _)=>some (.len .slice x)
    |some (.map _ _)=>some (.len .map x)
    |_=>none
   |none=>none
 | .builtin .min,some [x,y]=>some (.min x y)
 | .builtin .max,some [x,y]=>some (.max x y)
 | .builtin .append,some [x,y]=>match c.argTypes.toList with
   |[t,t']=>match P.underlying t with
    |some (.slice e)=>match Em P e,P.info? e with
     |some (es,_),some i=>if 0<i.bytes∧t=t' then some (.append es i.bytes x y)else none
     |_,_=>none
    |_=>none
   |_=>none
 | .builtin .clear,some [x]=>match c.argTypes.toList with
   |[t]=>match P.underlying t with
    |some (.slice e)=>match Em P e with
     |some (es,_)=>some (.clear es x)
     |none=>none
    |_=>none
   |_=>none
 | .builtin .delete,some [m,k]=>match c.argTypes.toList with
   |t::_=>match P.underlying t with
    |some (.map kt _)=>(EW P kt).map fun l=>.delete l m k
    |_=>none
   |_=>none
 | .builtin .cap,some [x]=>match nth c.argTypes.toList 0 with
   |some t=>match P.underlying t with
    |some (.slice _)=>some (.len .func x)
    |_=>none
   |none=>none
 |_,_=>none
def Adw:Option FZ→Mode
 |some (.mode m)=>m
 |_=>.pure
def IU (o:Oper) (ann:Option FZ):Option BR:=
 match o.op with
 | .move x=>(Ak x).map .Yp
 | .assign x=>match ann with
   |some .own=>match x,P.underlying o.type with
    | .const (.slice none 0 0),some (.slice e)=>(Bh P e).map .IJ
    |_,_=>none
   |_=>(Ak x).map .Yp
 | .pick c a b=>match Ak c,Ak a,Ak b with
   |some c,some a,some b=>some (.pick c a b)
   |_,_,_=>none
 | .alloc t=>match ann with
   |some (.AcF off e2)=>match Em P t with
    |some (n,.agg cs)=>some (.Jq off e2 n cs)
    |_=>none
   |_=>(Em P t).map fun(n,z)=>.alloc n z
 | .box t x=>match Bh P t,Ak x with
   |some n,some x=>some (.box n x)
   |_,_=>none
 | .build t parts=>match Em P t with
   |some (_,.agg z)=>match P.underlying t with
    |some (.struct fs)=>if fs.toList.all (fun f=>(Bh P f.type).isSome)then(LV P fs.toList parts.toList).map (.build z)else none
    |some (.array _ e)=>match Bh P e with
     |some es=>(H9 es parts.toList).map (.build z)
     |none=>none
    |_=>none
   |_=>none
 | .buildSlice t len parts=>match P.underlying t with
   |some (.slice e)=>match Em P e,I9 parts.toList with
    |some (es,z),some ps=>if len*es≤16777216 then some (.lit (match ann with|some .own=>true|_=>false) es z len ps)else none
    |_,_=>none
   |_=>none
 | .load t a=>match Zc P t,Ak a with
   |some sz,some a=>some (.load sz a)
   |_,_=>none
 | .store t a x=>match Bh P t,Ak a,Ak x with
   |some n,some a,some x=>some (.store n a x)
   |_,_,_=>none
 | .nilCheck x=>(Ak x).map .Oe
 | .binOp op t x y _=>match Ak x,Ak y with
   |some x,some y=>some (.bin op (XE P t) x y)
   |_,_=>none
 | .unOp op _ x=>(Ak x).map (.un op)
 | .convert src dst x=>match P.underlying src,P.underlying dst,Ak x with
   |some (.int _),some (.int k),some x=>some (.conv k x)
   |some .string,some .string,some x=>some (.convs x)
   |_,_,_=>none
 | .makeInterface t x=>match P.underlying t with
   |some (.interface _)=>none
   |some _=>(Ak x).map (.AbP t)
   |none=>none
 | .makeFunc (.func f) fs caps=>if fs.size=0 then(BF caps.toList).map (.ZW f)else none
 | .makeMap _ none=>some .MQ
 | .makeSlice t l c=>match P.underlying t with
   |some (.slice e)=>match Em P e,P.info? e,Ak l,Ak c with
    |some (es,z),some i,some l,some c=>if 0<i.bytes then some (.GX es i.bytes z l c)else none
    |_,_,_,_=>none
   |_=>none
 | .slice t x lo hi mx=>match P.underlying t,Ak x,mx with
   |some (.slice e),some x,none=>match Bh P e,Fg lo,Fg hi with
    |some es,some lo,some hi=>some (.slice es x lo hi)
    |_,_,_=>none
   |some .string,some x,none=>match Fg lo,Fg hi with
    |some lo,some hi=>some (.J5 x lo hi)
    |_,_=>none
   |some (.slice e),some x,some mx=>if(lo.isNone||isZero lo)&&isZero hi&&isZero (some mx)&&(Bh P e).isSome then some (.Qb x)else none
   |_,_,_=>none
 | .fieldAddr t x f=>match P.underlying t,Ak x with
   |some (.struct fs),some x=>match nth fs.toList f with
    |some fd=>(Bh P fd.type).map fun _=>.P9 fd.offset x
    |none=>none
   |_,_=>none
 | .field t x f=>match P.underlying t,Ak x with
   |some (.struct fs),some x=>match nth fs.toList f with
    |some fd=>(Zc P fd.type).map fun sz=>.field fd.offset sz x
    |none=>none
   |_,_=>none
 | .indexAddr t x i=>match P.underlying t,Ak x,Ak i with
   |some (.slice e),some x,some i=>(Bh P e).map fun es=>.Qa es x i
   |some (.array n e),some x,some i=>(Bh P e).map fun es=>.UD es n x i
   |_,_,_=>none
 | .index t x i=>match P.underlying t,Ak x,Ak i with
   |some .string,some x,some i=>some (.Wh x i)
   |some (.array n e),some x,some i=>match Bh P e,Zc P e with
    |some es,some sz=>some (.ZU es n sz x i)
    |_,_=>none
   |_,_,_=>none
 | .lookup t m k PI=>match P.underlying t,Ak m,Ak k with
   |some (.map kt e),some m,some k=>match EW P kt,Em P e with
    |some l,some (_,z)=>some (.lookup l z PI m k)
    |_,_=>none
   |_,_,_=>none
 | .mapUpdate t m k v| .insert t m k v=>match P.underlying t,Ak m,Ak k,Ak v with
   |some (.map kt _),some m,some k,some v=>(EW P kt).map fun l=>.mapset l m k v
   |_,_,_,_=>none
 | .extract x i=>(Ak x).map fun x=>.ext x i
 | .panic x=>(Ak x).map .panic
 | .call c=>UK P (Adw ann) c
 |_=>none
def Ee (ops:Array Oper) (n:Nat):Option (Nat×Bool)→Option (Option (Nat×Bool))
 |none=>some none
 |some (j,b)=>match(ops[j]?).bind (·.dst)with
  |some t=>if t<n then some (some (t,b))else none
  |none=>none
def Z5 (n:Nat):Option Nat→Bool
 |some d=>decide (d<n)
 |none=>true
def Dz (ops:Array Oper) (n:Nat) (an:List (Nat×FZ)):List Oper→Nat→Option (List Ap)
 |[],_=>some []
 |o::os,i=>match IU P o (Qg an i),Ee ops n o.guard,Dz ops n an os (i+1)with
  |some ao,some g,some r=>if Z5 n o.dst then some (⟨o.dst,ao,g⟩::r)else none
  |_,_,_=>none
def AO.slots:AO→List Nat
 | .tmp t=>[t]
 | .cst _=>[]
def slotsOf (o:Ap):List Nat:=
 o.dst.toList++o.op.BD.flatMap AO.slots++(match o.guard with|some (t,_)=>[t]|none=>[])
def TI (ops:Array Oper) (BD:List Ap) (m:Nat):Bool:=
 let b:=Region.before ops
 (List.range ops.size).all fun j=>match ops[j]?,BD[j]? with
    |some o,some ao=>
     (o.after.toList.all fun e=>!Region.binds .any e||decide (e.on<j))&&
     ((List.range ops.size).all fun i=>i==j||match(ops[i]?).bind (·.dst)with
       |some t=>!(slotsOf ao).contains t||(if i<j then(b.getD j 0).testBit i else(b.getD i 0).testBit j)
       |none=>true)&&
     (decide (j<m)||(List.range j).all fun i=>(b.getD j 0).testBit i)
    |_,_=>false
def TK (ops:Array Oper) (BD:List Ap) (m f:Nat):Bool:=
 let b:=Region.before ops
 (List.range ops.size).all fun j=>match ops[j]?,BD[j]? with
    |some o,some ao=>
     (o.after.toList.all fun e=>!Region.binds .any e||decide (e.on<j))&&
     ((List.range ops.size).all fun i=>i==j||match(ops[i]?).bind (·.dst)with
       |some t=>!(slotsOf ao).contains t||(if i<j then(b.getD j 0).testBit i else(b.getD i 0).testBit j)
       |none=>true)&&
     (decide (j<m)||(List.range j).all fun i=>i==f||(b.getD j 0).testBit i)
    |_,_=>false
def DN (m:Nat) (os:List Ap):Bool:=(os.take m).all fun o=>o.op.ER
def Jw (o:Ap):Nat:=match o.op.cls with
 |some .e=>0
 |some .r=>1
 |some .w=>2
 |some .a=>3
 |none=>4
def AbS (m:Nat) (os:List Ap):Bool:=(os.take m).all fun o=>Jw o != 4
def PN (ops:Array Oper) (os:List Ap) (m:Nat):List (Nat×Nat):=
 let b:=Region.before ops
 (List.range m).flatMap fun j=>((List.range j).filter fun i=>match os[i]?,os[j]? with
    |some oi,some oj=>!(b.getD j 0).testBit i&&Jw oi != 0&&Jw oj != 0&&(Jw oi != 1||Jw oj != 1)
    |_,_=>false).map fun i=>(i,j)
def Ir:Code→Nat
 | .region id _ _=>id
 | .seq a _=>Ir a
 | .cond _ a _=>Ir a
 | .block _ a=>Ir a
 | .loop a=>Ir a
 |_=>0
def UL (ops:Array Oper) (BD:List Ap) (m:Nat) (W pc:List Nat):Bool:=
 let b:=Region.before ops
 (match pc with
 |p::E=>(E.all fun i=>!Dv i W)&&(List.range ops.size).all fun j=>decide (j≤p)||Dv j E||(b.getD j 0).testBit p
 |[]=>true)&&
 (List.range ops.size).all fun j=>match ops[j]?,BD[j]? with
    |some o,some ao=>
     (o.after.toList.all fun e=>!Region.binds .any e||decide (e.on<j))&&
     ((List.range ops.size).all fun i=>i==j||match(ops[i]?).bind (·.dst)with
       |some t=>!(slotsOf ao).contains t||(if i<j then(b.getD j 0).testBit i else(b.getD i 0).testBit j)
       |none=>true)&&
     (decide (j<m)||flt ao||Dv j W||(List.range j).all fun i=>(match BD[i]? with|some ai=>flt ai|none=>false)||Dv i W||(b.getD j 0).testBit i)
    |_,_=>false
def J8:CW:=.cond (.cst (.int .i64 0)) .skip .skip
def Ia (l:Jj) (d1 d2 m k x:Nat):List Ap:=[⟨some d1,.Yp (.cst .junk),none⟩,⟨some d2,.Yp (.cst .junk),none⟩,⟨none,.mapset l (.tmp m) (.tmp k) (.tmp x),none⟩]
def Qh (ops:Array Oper) (m:Nat):Option (TypeId×Nat×Nat×Nat×Nat×Nat):=
 match ops[m]?,ops[m+1]?,ops[m+2]? with
 |some o1,some o2,some o3=>match o1.op,o1.dst,o1.guard,o2.op,o2.dst,o2.guard with
  | .mapEntry t (.tmp tm) (.tmp tk),some d1,none,.extract (.tmp e1) 1,some d2,none=>match o3.op,o3.dst,o3.guard with
    | .entryStore _ (.tmp tm') (.tmp e2) (.tmp tx),none,none=>
      if e1=d1∧e2=d2∧tm'=tm∧d1≠d2∧(tm≠d1∧tm≠d2)∧(tk≠d1∧tk≠d2)∧(tx≠d1∧tx≠d2)∧tm≠tx∧tk≠tx then some (t,d1,d2,tm,tk,tx)else none
    |_,_,_=>none
  |_,_,_,_,_,_=>none
 |_,_,_=>none
def PO (ops:Array Oper) (m tx d1 d2:Nat):Option (Nat×Nat):=
 match(List.range m).find? fun i=>(ops[i]?).bind (·.dst)==some tx with
 |some f=>match ops[f]? with
  |some o=>match o.op,o.guard with
   | .move (.tmp ty),none=>if o.dst=some tx∧ty≠d1∧ty≠d2∧f<m∧((Region.before ops).getD (m+2) 0).testBit f=true then some (f,ty)else none
   |_,_=>none
  |none=>none
 |none=>none
def AcG (ops:Array Oper) (BD:List Ap) (m:Nat):Bool:=match Qh ops m with
 |some (_,d1,d2,_,_,tx)=>match PO ops m tx d1 d2 with
  |some (f,_)=>TK ops BD m f&&DN m BD
  |none=>false
 |none=>false
def XF (n:Nat) (an:List (Nat×FZ)) (ops:Array Oper) (m:Nat):Option (List Ap):=
 match Qh ops m with
 |some (t,d1,d2,tm,tk,tx)=>match P.underlying t with
  |some (.map kt e)=>match EW P kt,Em P e,Dz P ops n an (ops.toList.take m) 0,Dz P ops n an (ops.toList.drop (m+3)) (m+3)with
   |some l,some _,some hd,some tl=>if d1<n∧d2<n then some (hd++(Ia l d1 d2 tm tk tx++tl))else none
   |_,_,_,_=>none
  |_=>none
 |none=>none
def En (n:Nat) (an:List IQ):Code→Option CW
 | .skip=>some .skip
 | .region id ops draw=>
   let a:=D5 an id
   match Dz P ops n a.ops ops.toList 0 with
   |some os=>if draw then
     let m:=a.head.getD os.length
     if a.par then
          if TI ops os m&&AbS m os&&decide (m≤ops.size)then some (.par m (PN ops os m) a.Jk os a.live a.trunc)else none
     else if a.mix then
          if UL ops os m a.wob a.pc&&DN m os then some (.mix m a.wob a.pc a.Jk os a.live a.trunc)else none
     else if TI ops os m&&DN m os then some (.region (some m) a.Jk os a.live a.trunc)else none
    else some (.region none a.Jk os a.live a.trunc)
   |none=>match a.head with
    |some m=>match XF P n a.ops ops m with
     |some os=>if draw&&AcG ops os m then some (.region (some m) a.Jk os a.live a.trunc)else some J8
     |none=>some J8
    |none=>some J8
 | .seq x y=>match En n an x,En n an y with
   |some a,some b=>some (.seq a b)
   |_,_=>none
 | .cond c x y=>match Ak c,En n an x,En n an y with
   |some c,some a,some b=>some (.cond c a b)
   |_,_,_=>none
 | .block id x=>(En n an x).map (.block id)
 | .loop x=>(En n an x).map (.loop (D5 an (Ir x)).hdr)
 | .exit id=>some (.exit id)
 | .ret=>some .ret
 |_=>some J8
def EZ (n:Nat):List ResultVar→Option (List TF)
 |[]=>some []
 | .tmp t::rs=>if t<n then(EZ n rs).map (.tmp t::·)else none
 | .cell a t::rs=>match Zc P t,EZ n rs with
   |some sz,some r=>some (.cell a sz::r)
   |_,_=>none
def OJ (an:List IQ) (f:Func):Option GL:=
 match f.body with
 |some b=>match En P f.ntmps an b,EZ P f.ntmps f.results.toList with
  |some c,some rs=>if f.params.size+f.nfree≤f.ntmps then some ⟨f.params.size+f.nfree,c,rs⟩else none
  |_,_=>none
 |none=>none
def Ib:List Ap→Nat→List (Nat×FZ)
 |[],_=>[]
 |o::os,i=>match o.op with
  | .call .pure _ _=>Ib os (i+1)
  | .call m _ _=>(i,.mode m)::Ib os (i+1)
  | .Gt .pure _ _=>Ib os (i+1)
  | .Gt m _ _=>(i,.mode m)::Ib os (i+1)
  | .IJ _=>(i,.own)::Ib os (i+1)
  | .lit true _ _ _ _=>(i,.own)::Ib os (i+1)
  | .Jq off e2 _ _=>(i,.AcF off e2)::Ib os (i+1)
  |_=>Ib os (i+1)
def Z7 (i:Nat) (l:List Nat):List IQ→List IQ
 |[]=>[]
 |a::r=>if a.id=i then{a with hdr:=l}::r else a::Z7 i l r
def anZ:Code→CW→List IQ
 | .region id _ _,.region h Jk ops live tr=>[{id:=id,head:=h,Jk:=Jk,live:=live,trunc:=tr,ops:=Ib ops 0}]
 | .region id _ _,.par m _ Jk ops live tr=>[{id:=id,head:=some m,Jk:=Jk,live:=live,trunc:=tr,ops:=Ib ops 0,par:=true}]
 | .region id _ _,.mix m W pc Jk ops live tr=>[{id:=id,wob:=W,pc:=pc,head:=some m,Jk:=Jk,live:=live,trunc:=tr,ops:=Ib ops 0,mix:=true}]
 | .seq a b,.seq x y=>anZ a x++anZ b y
 | .cond _ a b,.cond _ x y=>anZ a x++anZ b y
 | .block _ a,.block _ x=>anZ a x
 | .loop a,.loop live x=>Z7 (Ir a) live (anZ a x)
 |_,_=>[]
def anF (f:Func) (a:GL):List IQ:=match f.body with
 |some b=>anZ b a.body
 |none=>[]
def cok (f:Func) (a:GL):Option GL:=OJ P (anF f a) f
end AI
end Go.Proofs.YtjjhejbffgaabaaGreatDoor
