/- From the model's code to the abstract interpreter's: the types' tables are looked up once, the places of variables are marked as told. -/
import Derived.Test.YtchcadfjbkkgmaaGreatDoorCCore
namespace Go.Proofs.YtchcadfjbkkgmaaGreatDoor
namespace AI
inductive G6 where
 |own
 |Ai2 (off es:Nat)
 |mode (m:Mode)
 deriving Inhabited
structure FH where
 id:Nat
 head:Option Nat:=none
 KG:List Nat:=[]
 live:List Nat:=[]
 trunc:Option Nat:=none
 ops:List (Nat×G6):=[]
 hdr:List Nat:=[]
 par:Bool:=false
 mix:Bool:=false
 wob:List Nat:=[]
 pc:List Nat:=[]
 deriving Inhabited
def Ub:List (Nat×G6)→Nat→Option G6
 |[],_=>none
 |(j,a)::r,i=>if i=j then some a else Ub r i
def EJ:List FH→Nat→FH
 |[],i=>{id:=i}
 |a::r,i=>if a.id=i then a else EJ r i
def Qn:Value→Option AV
 | .bool b=>some (.bool b)
 | .int k n=>some (.int k n)
 | .string s=>some (.str s.data.toList)
 | .slice none 0 0=>some (.sl false [])
 | .pointer none=>some .JA
 | .map none=>some .Dt
 | .nilFunc=>some .Gj
 | .nilIface=>some .Ht
 | .func (.func f) fs cs=>if fs.size=0∧cs.size=0 then some (.fn f [])else none
 |_=>none
def ofValues:List Value→Option (List AV)
 |[]=>some []
 |v::vs=>match Qn v,ofValues vs with
  |some a,some b=>some (a::b)
  |_,_=>none
def ofValue:Value→Option AV
 | .agg cs=>(ofValues cs.toList).map .agg
 |v=>Qn v
def Az:Operand→Option AO
 | .tmp t=>some (.tmp t)
 | .const v=>(ofValue v).map .cst
 | .func f=>some (.cst (.fn f []))
 | .global _=>none
def Ce:List Operand→Option (List AO)
 |[]=>some []
 |v::vs=>match Az v,Ce vs with
  |some a,some b=>some (a::b)
  |_,_=>none
variable (P:Program)
def XA (t:TypeId):Bool:=match P.underlying t with
 |some (.struct _)|some (.array _ _)=>true
 |_=>false
def BF (t:TypeId):Option Nat:=match P.info? t with
 |some i=>if 0<i.size then some i.size else none
 |none=>none
def szT (t:TypeId):Option (Option Nat):=match P.underlying t,BF P t with
 |some (.struct _),some n=>some (some n)
 |some (.array _ _),some n=>some (some n)
 |some _,some 1=>some none
 |_,_=>none
def Fg (t:TypeId):Option (Nat×AV):=match P.info? t,BF P t with
 |some i,some n=>match i.zero with
  |some z=>match ofValue z with
   |some v=>if v.cells.length=n then some (n,v)else none
   |none=>none
  |none=>none
 |_,_=>none
def Gg (t:TypeId):Option JB:=match P.underlying t with
 |some .bool=>some .bool
 |some (.int _)=>some .int
 |some .string=>some .str
 |_=>none
def Wi:List Field→Nat→Option (List JB)
 |[],_=>some []
 |f::fs,i=>match Gg P f.type,Wi fs (i+1)with
  | some k, some ks => if f.offset = i ∧ (f.name == "_") = false ∧ BF P f.type = some 1 then some (k :: ks) else none
  |_,_=>none
def Afx (t:TypeId):Option (List JB):=match P.underlying t with
 |some (.struct gs)=>match Wi P gs.toList 0 with
  |some ks=>if P.stoodInHeld t=false∧BF P t=some ks.length then some ks else none
  |none=>none
 |_=>none
def O1:List Field→Nat→Option (List JB)
 |[],_=>some []
 |f::fs,i=>match Gg P f.type with
  |some k=>match O1 fs (i+1)with
   | some ks => if f.offset = i ∧ (f.name == "_") = false ∧ BF P f.type = some 1 then some (k :: ks) else none
   |none=>none
  |none=>match Afx P f.type with
   |some js=>match O1 fs (i+js.length)with
    | some ks => if f.offset = i ∧ (f.name == "_") = false then some (js ++ ks) else none
    |none=>none
   |none=>none
def eqT (t:TypeId):JB:=match P.underlying t with
 |some .bool=>.bool
 |some (.int _)=>.int
 |some .string=>.str
 |some (.slice _)=>.slice
 |some (.pointer _)=>.ptr
 |some (.func _ _ _)=>.func
 |some (.map _ _)=>.map
 |some (.struct fs)=>match O1 P fs.toList 0 with
  |some ks=>if P.eqGuardType P.depth t=false∧P.stoodInHeld t=false∧BF P t=some ks.length then .flat ks else .other
  |none=>.other
 |_=>.other
def OZ (fs:List Field):List (Nat×Operand)→Option (List (Nat×Nat×AO))
 |[]=>some []
 |(i,x)::ps=>match nth fs i,Az x,OZ fs ps with
  |some f,some a,some r=>match BF P f.type with
   |some n=>some ((f.offset,n,a)::r)
   |none=>none
  |_,_,_=>none
def Jt (es:Nat):List (Nat×Operand)→Option (List (Nat×Nat×AO))
 |[]=>some []
 |(i,x)::ps=>match Az x,Jt es ps with
  |some a,some r=>some ((i*es,es,a)::r)
  |_,_=>none
def Kz:List (Nat×Operand)→Option (List (Nat×AO))
 |[]=>some []
 |(i,x)::ps=>match Az x,Kz ps with
  |some a,some r=>some ((i,a)::r)
  |_,_=>none
def Gx:Option Operand→Option (Option AO)
 |none=>some none
 |some x=>(Az x).map some
def isZero:Option Operand→Bool
 |some (.const (.int _ 0))=>true
 |_=>false
def Y4 (m:Mode) (c:Call):Option CW:=
 match c.callee,Ce c.args.toList with
 | .value (.func f),some args=>some (.call m f args)
 | .value (.tmp t),some args=>some (.Io m (.tmp t) args)
 | .builtin .len,some [x]=>match nth c.argTypes.toList 0 with
   |some t=>match P.underlying t with
    |some .string=>some (.len .str x)
    |some (.slice _)=>some (.len .slice x)
    |some (.map _ _)=>some (.len .map x)
    |_=>none
   |none=>none
 | .builtin .min,some [x,y]=>some (.min x y)
 | .builtin .max,some [x,y]=>some (.max x y)
 | .builtin .append,some [x,y]=>match c.argTypes.toList with
   |[t,t']=>match P.underlying t with
    |some (.slice e)=>match Fg P e,P.info? e with
     |some (es,_),some i=>if 0<i.bytes∧t=t' then some (.append es i.bytes x y)else none
     |_,_=>none
    |_=>none
   |_=>none
 | .builtin .clear,some [x]=>match c.argTypes.toList with
   |[t]=>match P.underlying t with
    |some (.slice e)=>match Fg P e with
     |some (es,_)=>some (.clear es x)
     |none=>none
    |_=>none
   |_=>none
 | .builtin .delete,some [m,k]=>match c.argTypes.toList with
   |t::_=>match P.underlying t with
    |some (.map kt _)=>(Gg P kt).map fun l=>.delete l m k
    |_=>none
   |_=>none
 | .builtin .cap,some [x]=>match nth c.argTypes.toList 0 with
   |some t=>match P.underlying t with
    |some (.slice _)=>some (.len .func x)
    |_=>none
   |none=>none
 |_,_=>none
def Akr:Option G6→Mode
 |some (.mode m)=>m
 |_=>.pure
def JW (o:Oper) (ann:Option G6):Option CW:=
 match o.op with
 | .move x=>(Az x).map .ZM
 | .assign x=>match ann with
   |some .own=>match x,P.underlying o.type with
    | .const (.slice none 0 0),some (.slice e)=>(BF P e).map .JX
    |_,_=>none
   |_=>(Az x).map .ZM
 | .pick c a b=>match Az c,Az a,Az b with
   |some c,some a,some b=>some (.pick c a b)
   |_,_,_=>none
 | .alloc t=>match ann with
   |some (.Ai2 off e2)=>match Fg P t with
    |some (n,.agg cs)=>some (.Ll off e2 n cs)
    |_=>none
   |_=>(Fg P t).map fun(n,z)=>.alloc n z
 | .box t x=>match BF P t,Az x with
   |some n,some x=>some (.box n x)
   |_,_=>none
 | .build t parts=>match Fg P t with
   |some (_,.agg z)=>match P.underlying t with
    |some (.struct fs)=>if fs.toList.all (fun f=>(BF P f.type).isSome)then(OZ P fs.toList parts.toList).map (.build z)else none
    |some (.array _ e)=>match BF P e with
     |some es=>(Jt es parts.toList).map (.build z)
     |none=>none
    |_=>none
   |_=>none
 | .buildSlice t len parts=>match P.underlying t with
   |some (.slice e)=>match Fg P e,Kz parts.toList with
    |some (es,z),some ps=>if len*es≤16777216 then some (.lit (match ann with|some .own=>true|_=>false) es z len ps)else none
    |_,_=>none
   |_=>none
 | .load t a=>match szT P t,Az a with
   |some sz,some a=>some (.load sz a)
   |_,_=>none
 | .store t a x=>match BF P t,Az a,Az x with
   |some n,some a,some x=>some (.store n a x)
   |_,_,_=>none
 | .nilCheck x=>(Az x).map .QX
 | .binOp op t x y _=>match Az x,Az y with
   |some x,some y=>some (.bin op (eqT P t) x y)
   |_,_=>none
 | .unOp op _ x=>(Az x).map (.un op)
 | .convert src dst x=>match P.underlying src,P.underlying dst,Az x with
   |some (.int _),some (.int k),some x=>some (.conv k x)
   |some .string,some .string,some x=>some (.convs x)
   |_,_,_=>none
 | .makeInterface t x=>match P.underlying t with
   |some (.interface _)=>none
   |some _=>(Az x).map (.AhH t)
   |none=>none
 | .makeFunc (.func f) fs caps=>if fs.size=0 then(Ce caps.toList).map (.AeM f)else none
 | .makeMap _ none=>some .P5
 | .makeSlice t l c=>match P.underlying t with
   |some (.slice e)=>match Fg P e,P.info? e,Az l,Az c with
    |some (es,z),some i,some l,some c=>if 0<i.bytes then some (.IU es i.bytes z l c)else none
    |_,_,_,_=>none
   |_=>none
 | .slice t x lo hi mx=>match P.underlying t,Az x,mx with
   |some (.slice e),some x,none=>match BF P e,Gx lo,Gx hi with
    |some es,some lo,some hi=>some (.slice es x lo hi)
    |_,_,_=>none
   |some .string,some x,none=>match Gx lo,Gx hi with
    |some lo,some hi=>some (.MR x lo hi)
    |_,_=>none
   |some (.slice e),some x,some mx=>if(lo.isNone||isZero lo)&&isZero hi&&isZero (some mx)&&(BF P e).isSome then some (.UC x)else none
   |_,_,_=>none
 | .fieldAddr t x f=>match P.underlying t,Az x with
   |some (.struct fs),some x=>match nth fs.toList f with
    |some fd=>(BF P fd.type).map fun _=>.RG fd.offset x
    |none=>none
   |_,_=>none
 | .field t x f=>match P.underlying t,Az x with
   |some (.struct fs),some x=>match nth fs.toList f with
    |some fd=>(szT P fd.type).map fun sz=>.field fd.offset sz x
    |none=>none
   |_,_=>none
 | .indexAddr t x i=>match P.underlying t,Az x,Az i with
   |some (.slice e),some x,some i=>(BF P e).map fun es=>.UA es x i
   |some (.array n e),some x,some i=>(BF P e).map fun es=>.YW es n x i
   |_,_,_=>none
 | .index t x i=>match P.underlying t,Az x,Az i with
   |some .string,some x,some i=>some (.AaM x i)
   |some (.array n e),some x,some i=>match BF P e,szT P e with
    |some es,some sz=>some (.Afr es n sz x i)
    |_,_=>none
   |_,_,_=>none
 | .lookup t m k SV=>match P.underlying t,Az m,Az k with
   |some (.map kt e),some m,some k=>match Gg P kt,Fg P e with
    |some l,some (_,z)=>some (.lookup l z SV m k)
    |_,_=>none
   |_,_,_=>none
 | .mapUpdate t m k v| .insert t m k v=>match P.underlying t,Az m,Az k,Az v with
   |some (.map kt _),some m,some k,some v=>(Gg P kt).map fun l=>.mapset l m k v
   |_,_,_,_=>none
 | .extract x i=>(Az x).map fun x=>.ext x i
 | .panic x=>(Az x).map .panic
 | .call c=>Y4 P (Akr ann) c
 |_=>none
def EX (ops:Array Oper) (n:Nat):Option (Nat×Bool)→Option (Option (Nat×Bool))
 |none=>some none
 |some (j,b)=>match(ops[j]?).bind (·.dst)with
  |some t=>if t<n then some (some (t,b))else none
  |none=>none
def AbE (n:Nat):Option Nat→Bool
 |some d=>decide (d<n)
 |none=>true
def Dl (ops:Array Oper) (n:Nat) (an:List (Nat×G6)):List Oper→Nat→Option (List AU)
 |[],_=>some []
 |o::os,i=>match JW P o (Ub an i),EX ops n o.guard,Dl ops n an os (i+1)with
  |some ao,some g,some r=>if AbE n o.dst then some (⟨o.dst,ao,g⟩::r)else none
  |_,_,_=>none
def AO.slots:AO→List Nat
 | .tmp t=>[t]
 | .cst _=>[]
def slotsOf (o:AU):List Nat:=
 o.dst.toList++o.op.BU.flatMap AO.slots++(match o.guard with|some (t,_)=>[t]|none=>[])
def Xe (ops:Array Oper) (BU:List AU) (m:Nat):Bool:=
 let b:=Region.before ops
 (List.range ops.size).all fun j=>match ops[j]?,BU[j]? with
    |some o,some ao=>
     (o.after.toList.all fun e=>!Region.binds .any e||decide (e.on<j))&&
     ((List.range ops.size).all fun i=>i==j||match(ops[i]?).bind (·.dst)with
       |some t=>!(slotsOf ao).contains t||(if i<j then(b.getD j 0).testBit i else(b.getD i 0).testBit j)
       |none=>true)&&
     (decide (j<m)||(List.range j).all fun i=>(b.getD j 0).testBit i)
    |_,_=>false
def Xg (ops:Array Oper) (BU:List AU) (m f:Nat):Bool:=
 let b:=Region.before ops
 (List.range ops.size).all fun j=>match ops[j]?,BU[j]? with
    |some o,some ao=>
     (o.after.toList.all fun e=>!Region.binds .any e||decide (e.on<j))&&
     ((List.range ops.size).all fun i=>i==j||match(ops[i]?).bind (·.dst)with
       |some t=>!(slotsOf ao).contains t||(if i<j then(b.getD j 0).testBit i else(b.getD i 0).testBit j)
       |none=>true)&&
     (decide (j<m)||(List.range j).all fun i=>i==f||(b.getD j 0).testBit i)
    |_,_=>false
def Ep (m:Nat) (os:List AU):Bool:=(os.take m).all fun o=>o.op.Gh
def KW (o:AU):Nat:=match o.op.cls with
 |some .e=>0
 |some .r=>1
 |some .w=>2
 |some .a=>3
 |none=>4
def AhV (m:Nat) (os:List AU):Bool:=(os.take m).all fun o=>KW o != 4
def SX (ops:Array Oper) (os:List AU) (m:Nat):List (Nat×Nat):=
 let b:=Region.before ops
 (List.range m).flatMap fun j=>((List.range j).filter fun i=>match os[i]?,os[j]? with
    |some oi,some oj=>!(b.getD j 0).testBit i&&KW oi != 0&&KW oj != 0&&(KW oi != 1||KW oj != 1)
    |_,_=>false).map fun i=>(i,j)
def JJ:Code→Nat
 | .region id _ _=>id
 | .seq a _=>JJ a
 | .cond _ a _=>JJ a
 | .block _ a=>JJ a
 | .loop a=>JJ a
 |_=>0
def YG (ops:Array Oper) (BU:List AU) (m:Nat) (W pc:List Nat):Bool:=
 let b:=Region.before ops
 (match pc with
 |p::E=>(E.all fun i=>!D8 i W)&&(List.range ops.size).all fun j=>decide (j≤p)||D8 j E||(b.getD j 0).testBit p
 |[]=>true)&&
 (List.range ops.size).all fun j=>match ops[j]?,BU[j]? with
    |some o,some ao=>
     (o.after.toList.all fun e=>!Region.binds .any e||decide (e.on<j))&&
     ((List.range ops.size).all fun i=>i==j||match(ops[i]?).bind (·.dst)with
       |some t=>!(slotsOf ao).contains t||(if i<j then(b.getD j 0).testBit i else(b.getD i 0).testBit j)
       |none=>true)&&
     (decide (j<m)||flt ao||D8 j W||(List.range j).all fun i=>(match BU[i]? with|some ai=>flt ai|none=>false)||D8 i W||(b.getD j 0).testBit i)
    |_,_=>false
def Na:Bd:=.cond (.cst (.int .i64 0)) .skip .skip
def Jk (l:JB) (d1 d2 m k x:Nat):List AU:=[⟨some d1,.ZM (.cst .junk),none⟩,⟨some d2,.ZM (.cst .junk),none⟩,⟨none,.mapset l (.tmp m) (.tmp k) (.tmp x),none⟩]
def Ue (ops:Array Oper) (m:Nat):Option (TypeId×Nat×Nat×Nat×Nat×Nat):=
 match ops[m]?,ops[m+1]?,ops[m+2]? with
 |some o1,some o2,some o3=>match o1.op,o1.dst,o1.guard,o2.op,o2.dst,o2.guard with
  | .mapEntry t (.tmp tm) (.tmp tk),some d1,none,.extract (.tmp e1) 1,some d2,none=>match o3.op,o3.dst,o3.guard with
    | .entryStore _ (.tmp tm') (.tmp e2) (.tmp tx),none,none=>
      if e1=d1∧e2=d2∧tm'=tm∧d1≠d2∧(tm≠d1∧tm≠d2)∧(tk≠d1∧tk≠d2)∧(tx≠d1∧tx≠d2)∧tm≠tx∧tk≠tx then some (t,d1,d2,tm,tk,tx)else none
    |_,_,_=>none
  |_,_,_,_,_,_=>none
 |_,_,_=>none
def SQ (ops:Array Oper) (m tx d1 d2:Nat):Option (Nat×Nat):=
 match(List.range m).find? fun i=>(ops[i]?).bind (·.dst)==some tx with
 |some f=>match ops[f]? with
  |some o=>match o.op,o.guard with
   | .move (.tmp ty),none=>if o.dst=some tx∧ty≠d1∧ty≠d2∧f<m∧((Region.before ops).getD (m+2) 0).testBit f=true then some (f,ty)else none
   |_,_=>none
  |none=>none
 |none=>none
def AiP (ops:Array Oper) (BU:List AU) (m:Nat):Bool:=match Ue ops m with
 |some (_,d1,d2,_,_,tx)=>match SQ ops m tx d1 d2 with
  |some (f,_)=>Xg ops BU m f&&Ep m BU
  |none=>false
 |none=>false
def AbI (n:Nat) (an:List (Nat×G6)) (ops:Array Oper) (m:Nat):Option (List AU):=
 match Ue ops m with
 |some (t,d1,d2,tm,tk,tx)=>match P.underlying t with
  |some (.map kt e)=>match Gg P kt,Fg P e,Dl P ops n an (ops.toList.take m) 0,Dl P ops n an (ops.toList.drop (m+3)) (m+3)with
   |some l,some _,some hd,some tl=>if d1<n∧d2<n then some (hd++(Jk l d1 d2 tm tk tx++tl))else none
   |_,_,_,_=>none
  |_=>none
 |none=>none
def Ci (n:Nat) (an:List FH):Code→Option Bd
 | .skip=>some .skip
 | .region id ops draw=>
   let a:=EJ an id
   match Dl P ops n a.ops ops.toList 0 with
   |some os=>if draw then
     let m:=a.head.getD os.length
     if a.par then
          if Xe ops os m&&AhV m os&&decide (m≤ops.size)then some (.par m (SX ops os m) a.KG os a.live a.trunc)else none
     else if a.mix then
          if YG ops os m a.wob a.pc&&Ep m os then some (.mix m a.wob a.pc a.KG os a.live a.trunc)else none
     else if Xe ops os m&&Ep m os then some (.region (some m) a.KG os a.live a.trunc)else none
    else some (.region none a.KG os a.live a.trunc)
   |none=>match a.head with
    |some m=>match AbI P n a.ops ops m with
     |some os=>if draw&&AiP ops os m then some (.region (some m) a.KG os a.live a.trunc)else some Na
     |none=>some Na
    |none=>some Na
 | .seq x y=>match Ci n an x,Ci n an y with
   |some a,some b=>some (.seq a b)
   |_,_=>none
 | .cond c x y=>match Az c,Ci n an x,Ci n an y with
   |some c,some a,some b=>some (.cond c a b)
   |_,_,_=>none
 | .block id x=>(Ci n an x).map (.block id)
 | .loop x=>(Ci n an x).map (.loop (EJ an (JJ x)).hdr)
 | .exit id=>some (.exit id)
 | .ret=>some .ret
 |_=>some Na
def Fj (n:Nat):List ResultVar→Option (List Vg)
 |[]=>some []
 | .tmp t::rs=>if t<n then(Fj n rs).map (.tmp t::·)else none
 | .cell a t::rs=>match szT P t,Fj n rs with
   |some sz,some r=>some (.cell a sz::r)
   |_,_=>none
def Ov (an:List FH) (f:Func):Option GU:=
 match f.body with
 |some b=>match Ci P f.ntmps an b,Fj P f.ntmps f.results.toList with
  |some c,some rs=>if f.params.size+f.nfree≤f.ntmps then some ⟨f.params.size+f.nfree,c,rs⟩else none
  |_,_=>none
 |none=>none
def Ju:List AU→Nat→List (Nat×G6)
 |[],_=>[]
 |o::os,i=>match o.op with
  | .call .pure _ _=>Ju os (i+1)
  | .call m _ _=>(i,.mode m)::Ju os (i+1)
  | .Io .pure _ _=>Ju os (i+1)
  | .Io m _ _=>(i,.mode m)::Ju os (i+1)
  | .JX _=>(i,.own)::Ju os (i+1)
  | .lit true _ _ _ _=>(i,.own)::Ju os (i+1)
  | .Ll off e2 _ _=>(i,.Ai2 off e2)::Ju os (i+1)
  |_=>Ju os (i+1)
def Afy (i:Nat) (l:List Nat):List FH→List FH
 |[]=>[]
 |a::r=>if a.id=i then{a with hdr:=l}::r else a::Afy i l r
def anZ:Code→Bd→List FH
 | .region id _ _,.region h KG ops live tr=>[{id:=id,head:=h,KG:=KG,live:=live,trunc:=tr,ops:=Ju ops 0}]
 | .region id _ _,.par m _ KG ops live tr=>[{id:=id,head:=some m,KG:=KG,live:=live,trunc:=tr,ops:=Ju ops 0,par:=true}]
 | .region id _ _,.mix m W pc KG ops live tr=>[{id:=id,wob:=W,pc:=pc,head:=some m,KG:=KG,live:=live,trunc:=tr,ops:=Ju ops 0,mix:=true}]
 | .seq a b,.seq x y=>anZ a x++anZ b y
 | .cond _ a b,.cond _ x y=>anZ a x++anZ b y
 | .block _ a,.block _ x=>anZ a x
 | .loop a,.loop live x=>Afy (JJ a) live (anZ a x)
 |_,_=>[]
def anF (f:Func) (a:GU):List FH:=match f.body with
 |some b=>anZ b a.body
 |none=>[]
def cok (f:Func) (a:GU):Option GU:=Ov P (anF f a) f
end AI
end Go.Proofs.YtchcadfjbkkgmaaGreatDoor
