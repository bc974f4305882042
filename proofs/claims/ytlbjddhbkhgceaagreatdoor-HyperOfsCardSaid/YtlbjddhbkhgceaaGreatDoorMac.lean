/- The arguments of the graph laws, taken apart: values, properties, nodes, edges, graphs. A value in a list of values. The null value. Names: the program's and the reference's. value.Plain and the reference's Plain: which values may be stored. Conjunctive queries, taken apart: atoms; when they are fit; what their check answers. Valid values, and values that are alike: plain. Valid fractions: the program's. Valid values, exactly: the program's. Comparing two numbers. -/
import Derived.Test.YtlbjddhbkhgceaaGreatDoorMaa
import Derived.Test.YtlbjddhbkhgceaaGreatDoorGrCode
import Derived.Test.YtlbjddhbkhgceaaGreatDoorIxF
set_option linter.unusedVariables false
set_option maxRecDepth 4000
namespace Go.Proofs.YtlbjddhbkhgceaaGreatDoor
namespace AI
structure GV where
 k:Int
 n:Int
 d:Int
 s:List UInt8
 nn:Bool
 l:List AV
def GV.av (v:GV):AV:=.agg [.int .i64 v.k,.int .i64 v.n,.int .i64 v.d,.str v.s,.sl v.nn v.l]
structure GP where
 key:List UInt8
 v:GV
def GP.av (p:GP):AV:=.agg [.str p.key,.int .i64 p.v.k,.int .i64 p.v.n,.int .i64 p.v.d,.str p.v.s,.sl p.v.nn p.v.l]
structure GN where
 id:Int
 ln:Bool
 labels:List (List UInt8)
 pn:Bool
 props:List GP
def GN.av (n:GN):AV:=.agg [.int .i64 n.id,.sl n.ln (vs .str n.labels),.sl n.pn (vs GP.av n.props)]
structure GE where
 id:Int
 fr:Int
 to:Int
 ty:List UInt8
 pn:Bool
 props:List GP
def GE.av (n:GE):AV:=.agg [.int .i64 n.id,.int .i64 n.fr,.int .i64 n.to,.str n.ty,.sl n.pn (vs GP.av n.props)]
structure GG where
 nn:Bool
 nodes:List GN
 en:Bool
 edges:List GE
 nextN:Int
 nextE:Int
def GG.av (g:GG):AV:=.agg [.sl g.nn (vs GN.av g.nodes),.sl g.en (vs GE.av g.edges),.int .i64 g.nextN,.int .i64 g.nextE]
def I64 (z:Int):Prop:=-2^63≤z∧z<2^63
def Ln {α:Type} (l:List α):Prop:=l.length<2^63
def GV.ok (v:GV):Prop:=I64 v.k∧I64 v.n∧I64 v.d∧Ln v.s∧Ln v.l∧(v.nn=false→v.l=[])∧∀x∈v.l,Like Tryz.prog 46 x
def GP.ok (p:GP):Prop:=Ln p.key∧p.v.ok
def GN.ok (n:GN):Prop:=I64 n.id∧Ln n.labels∧(n.ln=false→n.labels=[])∧(∀ s∈n.labels,Ln s)∧Ln n.props∧(n.pn=false→n.props=[])∧∀p∈n.props,p.ok
def GE.ok (e:GE):Prop:=I64 e.id∧I64 e.fr∧I64 e.to∧Ln e.ty∧Ln e.props∧(e.pn=false→e.props=[])∧∀p∈e.props,p.ok
def GG.ok (g:GG):Prop:=Ln g.nodes∧(g.nn=false→g.nodes=[])∧(∀ n∈g.nodes,n.ok)∧Ln g.edges∧(g.en=false→g.edges=[])∧(∀ e∈g.edges,e.ok)∧I64 g.nextN∧I64 g.nextE
theorem c_int:Tryz.prog.cellsOf 3=1:=by kernel_rfl
theorem c_string:Tryz.prog.cellsOf 9=1:=by kernel_rfl
theorem c_strings:Tryz.prog.cellsOf 22=1:=by kernel_rfl
theorem c_values:Tryz.prog.cellsOf 44=1:=by kernel_rfl
theorem c_value:Tryz.prog.cellsOf 46=5:=by kernel_rfl
theorem len3 {l:List AV} (h:l.length=3):∃a b c,l=[a,b,c]:=by
 rcases l with _|⟨a,_|⟨b,_|⟨c,_|⟨d,r⟩⟩⟩⟩<;>simp at h
 exact⟨a,b,c,rfl⟩
theorem len4 {l:List AV} (h:l.length=4):∃a b c d,l=[a,b,c,d]:=by
 rcases l with _|⟨a,_|⟨b,_|⟨c,_|⟨d,_|⟨e,r⟩⟩⟩⟩⟩<;>simp at h
 exact⟨a,b,c,d,rfl⟩
theorem len5 {l:List AV} (h:l.length=5):∃a b c d e,l=[a,b,c,d,e]:=by
 rcases l with _|⟨a,_|⟨b,_|⟨c,_|⟨d,_|⟨e,_|⟨f,r⟩⟩⟩⟩⟩⟩<;>simp at h
 exact⟨a,b,c,d,e,rfl⟩
theorem len6 {l:List AV} (h:l.length=6):∃a b c d e f,l=[a,b,c,d,e,f]:=by
 rcases l with _|⟨a,_|⟨b,_|⟨c,_|⟨d,_|⟨e,_|⟨f,_|⟨g,r⟩⟩⟩⟩⟩⟩⟩<;>simp at h
 exact⟨a,b,c,d,e,f,rfl⟩
theorem i64_of {n:Int} (h:(Lit.int .i64 n).wf=true):I64 n:=by
 simp[Lit.wf]at h
 have h1:IntKind.i64.min=-2^63:=by rfl
 have h2:IntKind.i64.max=2^63-1:=by rfl
 unfold I64
 omega
theorem ln_of {α:Type} {l:List α} (h:l.length≤maxLen):Ln l:=by unfold Ln;have:=maxLen_lt;omega
theorem likeC_i {d:Nat} {cs:List AV} (h:likeC Tryz.prog d 3 cs):∃n,cs=[.int .i64 n]∧I64 n:=by
 obtain⟨k,e1,h1⟩:=likeC_int Tryz.underlying3 h
 exact⟨k,e1,i64_of h1⟩
theorem likeC_s {d:Nat} {cs:List AV} (h:likeC Tryz.prog d 9 cs):∃n,cs=[.str n]∧Ln n:=by
 obtain⟨k,e1,h1⟩:=likeC_string Tryz.underlying9 h
 exact⟨k,e1,ln_of h1⟩
theorem likeC_value {d:Nat} {cs:List AV} (h:likeC Tryz.prog d 46 cs):∃v:GV,cs=[.int .i64 v.k,.int .i64 v.n,.int .i64 v.d,.str v.s,.sl v.nn v.l]∧v.ok:=by
 obtain⟨d',rfl,g1,g2⟩:=likeC_struct Tryz.underlying46 h
 rw[c_value]at g1
 obtain⟨a,b,c,e,f,rfl⟩:=len5 g1
 clear g1
 simp only[List.forall_mem_cons]at g2
 obtain⟨f1,f2,f3,f4,f5,_⟩:=g2
 simp only[c_int,c_string,c_values,List.drop_zero,List.drop_succ_cons,List.take_succ_cons,List.take_zero]at f1 f2 f3 f4 f5
 obtain⟨k,e1,h1⟩:=likeC_i f1
 obtain⟨n,e2,h2⟩:=likeC_i f2
 obtain⟨m,e3,h3⟩:=likeC_i f3
 obtain⟨s,e4,h4⟩:=likeC_s f4
 obtain⟨d'',_,nl,xs,e5,h5,h6,h7⟩:=likeC_slice Tryz.underlying44 f5
 cases e1;cases e2;cases e3;cases e4;cases e5
 exact⟨⟨k,n,m,s,nl,xs⟩,rfl,h1,h2,h3,h4,ln_of h6,h5,fun x hx=>⟨_,h7 x hx⟩⟩
theorem like_value {a:AV} (h:Like Tryz.prog 46 a):∃v:GV,a=v.av∧v.ok:=by
 obtain⟨d,h⟩:=h
 obtain⟨cs,rfl,h0⟩:=like_struct Tryz.underlying46 h
 obtain⟨v,rfl,h1⟩:=likeC_value h0
 exact⟨v,rfl,h1⟩
theorem likeC_map {α:Type} {f:α→AV} {Q:α→Prop} {d:Nat} {t e:TypeId} {cs:List AV} (hu:Tryz.prog.underlying t=some (.slice e)) (he:∀d x,like Tryz.prog d e x→∃y,x=f y∧Q y) (h:likeC Tryz.prog d t cs):
 ∃nn l,cs=[.sl nn (vs f l)]∧(nn=false→l=[])∧Ln l∧∀y∈l,Q y:=by
 obtain⟨d',rfl,nn,xs,rfl,h0,h1,h2⟩:=likeC_slice hu h
 obtain⟨l,rfl,h3⟩:=exists_map (f:=f) (Q:=Q) fun x hx=>he d' x (h2 x hx)
 exact⟨nn,l,rfl,fun h=>by have:=h0 h;simpa using this,ln_of (by simpa using h1),h3⟩
theorem like_str {d:Nat} {a:AV} (h:like Tryz.prog d 9 a):∃s:List UInt8,a=.str s∧Ln s:=by
 obtain⟨k,e1,h1⟩:=like_string Tryz.underlying9 h
 exact⟨k,e1,ln_of h1⟩
theorem like_at {l:List AV} (h:∀x∈l,Like Tryz.prog 46 x) (i:Nat):
 ∃g:GV,∀hi:i<l.length,nth l (Int.toNat (Nat.cast i))=some g.av∧l[i]=g.av∧g.ok:=by
 by_cases hi:i<l.length
 ·obtain⟨g,e,hg⟩:=like_value (h _ (List.getElem_mem hi))
  exact⟨g,fun _=>⟨by rw[← e];exact nR hi,e,hg⟩⟩
 ·exact⟨⟨0,0,0,[],true,[]⟩,fun h=>absurd h hi⟩
def gv0:GV:=⟨0,0,0,[],false,[]⟩
theorem gv0_ok:gv0.ok:=⟨by unfold I64 gv0;dsimp only;omega,by unfold I64 gv0;dsimp only;omega,by unfold I64 gv0;dsimp only;omega,by simp[Ln,gv0],by simp[Ln,gv0],fun _=>rfl,by simp[gv0]⟩
def isNull (v:GV):Prop:=v.k=0∧v.n=0∧v.d=0∧v.s=[]∧v.l.length=0
instance (v:GV):Decidable (isNull v):=by unfold isNull;infer_instance
theorem null_gv0:isNull gv0:=⟨rfl,rfl,rfl,rfl,rfl⟩
def isLetter (c:Int):Prop:=(97≤c∧c≤122)∨(65≤c∧c≤90)
instance (c:Int):Decidable (isLetter c):=by unfold isLetter;infer_instance
theorem letter1 {c:Int}:PureP (findFn tab) 77 [.int .u8 c] (· =.bool (decide (isLetter c))):=by
 refine pureP_of rfl rfl ?_
 (conv=>whnf);repeat' (first|(refine kA ?_;conv=>whnf)|(refine Br.mk (fun hc=>?_) fun hc=>?_<;>first|exact hc.elim|conv=>whnf)  |(refine kB ?_))
 all_goals first|exact bool_t (by unfold isLetter;omega)|exact bool_f (by unfold isLetter;omega)
theorem letter2 {c:Int}:PureP (findFn tab) 88 [.int .u8 c] (· =.bool (decide (isLetter c))):=by
 refine pureP_of rfl rfl ?_
 (conv=>whnf);repeat' (first|(refine kA ?_;conv=>whnf)|(refine Br.mk (fun hc=>?_) fun hc=>?_<;>first|exact hc.elim|conv=>whnf)  |(refine kB ?_))
 all_goals first|exact bool_t (by unfold isLetter;omega)|exact bool_f (by unfold isLetter;omega)
def inName (c:Int):Prop:=isLetter c∨(48≤c∧c≤57)∨c=95
instance (c:Int):Decidable (inName c):=by unfold inName;infer_instance
def isName (s:List UInt8):Prop:=0<s.length∧s.length≤20∧(∀ c,s[0]?=some c→isLetter c.toNat)∧∀c∈s,inName c.toNat
instance (s:List UInt8):Decidable (isName s):=by unfold isName;infer_instance
theorem isName_letter {s:List UInt8} (hs:0<s.length) (h:isName s):isLetter s[0].toNat:=h.2.2.1 _ (List.getElem?_eq_getElem hs)
theorem isName_at {s:List UInt8} {i:Nat} (hi:i<s.length) (h:isName s):inName s[i].toNat:=h.2.2.2 _ (List.getElem_mem _)
theorem one_in {s:List UInt8} (hs:0<s.length) (h:inName s[0].toNat):∀c∈s.take 1,inName c.toNat:=by
 cases s with
 |nil=>simp at hs
 |cons a l=>simpa using h
theorem name1 {s:List UInt8} (hl:s.length<2^63):PureP (findFn tab) 53 [.str s] (· =.bool (decide (isName s))):=by
 by_cases h0:s.length=0
 ·obtain rfl:s=[]:=List.length_eq_zero_iff.1 h0
  refine pureP_of rfl rfl ?_
  (conv=>whnf);repeat' (first|(refine kA ?_;conv=>whnf)|(refine Br.mk (fun hc=>?_) fun hc=>?_<;>first|exact hc.elim|conv=>whnf)  |(refine kB ?_))
  all_goals exact bool_f (by simp[isName])
 have hs:0<s.length:=by omega
 have hne:s≠[]:=by rintro rfl;simp at h0
 have hz:s[0]?=some s[0]:=List.getElem?_eq_getElem hs
 refine pureP_of rfl rfl ?_
 (conv=>whnf);repeat' (first|(refine kA ?_;conv=>whnf)|(refine Br.mk (fun hc=>?_) fun hc=>?_<;>first|exact hc.elim|conv=>whnf)|(refine callB (letter1) (fun hc=>?_) (fun hc=>?_)<;>conv=>whnf)|(refine kB ?_))
 all_goals first|exact absurd hc hne|exact bool_f (by unfold isName;omega)|exact bool_f fun h=>hc (isName_letter hs h)|skip
 refine loop_inv (fun m env s'=>∃i:Nat,m=s.length-i∧env=[(0,.str s),(18,.int .i64 s.length),(19,.int .i64 i)]∧s'=⟨[],0⟩∧∀c∈s.take i,inName c.toNat) ?_ _ _ _ ⟨0,rfl,by simp,rfl,by simp⟩
 rintro _ _ _ ⟨i,rfl,rfl,rfl,hx⟩
 refine⟨rfl,?_⟩
 (conv=>whnf);repeat' (first|(refine kA ?_;conv=>whnf)|(refine Br.mk (fun hc=>?_) fun hc=>?_<;>first|exact hc.elim|conv=>whnf)|(refine callB (letter1) (fun hc=>?_) (fun hc=>?_)<;>conv=>whnf)|(refine kB ?_))
 all_goals first
  |exact again.mk ⟨_,by omega,i+1,rfl,rfl,rfl,all_take_succ (by omega) hx (by unfold inName isLetter at *;omega)⟩
  |(refine bool_f fun h=>?_;have:=isName_at (i:=i) (by omega) h;unfold inName isLetter at *;omega)
  |(rename_i hc1;exact bool_t ⟨hs,by omega,fun c h=>by rw[hz]at h;cases h;assumption,by rw[take_all hc]at hx;exact hx⟩)
theorem name2 {s:List UInt8} (hl:s.length<2^63):PureP (findFn tab) 65 [.str s] (· =.bool (decide (isName s))):=by
 by_cases h0:s.length=0
 ·obtain rfl:s=[]:=List.length_eq_zero_iff.1 h0
  refine pureP_of rfl rfl ?_
  (conv=>whnf);repeat' (first|(refine kA ?_;conv=>whnf)|(refine Br.mk (fun hc=>?_) fun hc=>?_<;>first|exact hc.elim|conv=>whnf)  |(refine kB ?_))
  all_goals exact bool_f (by simp[isName])
 have hs:0<s.length:=by omega
 have hne:s≠[]:=by rintro rfl;simp at h0
 have hz:s[0]?=some s[0]:=List.getElem?_eq_getElem hs
 refine pureP_of rfl rfl ?_
 (conv=>whnf);repeat' (first|(refine kA ?_;conv=>whnf)|(refine Br.mk (fun hc=>?_) fun hc=>?_<;>first|exact hc.elim|conv=>whnf)|(refine callB (letter2) (fun hc=>?_) (fun hc=>?_)<;>conv=>whnf)|(refine kB ?_))
 all_goals first|exact absurd hc hne|exact bool_f (by unfold isName;omega)|exact bool_f fun h=>hc (isName_letter hs h)|skip
 refine loop_inv (fun m env s'=>∃i:Nat,m=s.length-i∧env=[(0,.str s),(3,.int .i64 i)]∧s'=⟨[],0⟩∧∀c∈s.take i,inName c.toNat) ?_ _ _ _ ⟨1,rfl,rfl,rfl,one_in hs (Or.inl hc)⟩
 rintro _ _ _ ⟨i,rfl,rfl,rfl,hx⟩
 refine⟨rfl,?_⟩
 (conv=>whnf);repeat' (first|(refine kA ?_;conv=>whnf)|(refine Br.mk (fun hc=>?_) fun hc=>?_<;>first|exact hc.elim|conv=>whnf)|(refine callB (letter2) (fun hc=>?_) (fun hc=>?_)<;>conv=>whnf)|(refine kB ?_))
 all_goals first
  |exact again.mk ⟨_,by omega,i+1,rfl,rfl,rfl,all_take_succ (by omega) hx (by unfold inName isLetter at *;omega)⟩
  |(refine bool_f fun h=>?_;have:=isName_at (i:=i) (by omega) h;unfold inName isLetter at *;omega)
  |(rename_i hc1;exact bool_t ⟨hs,by omega,fun c h=>by rw[hz]at h;cases h;assumption,by rw[take_all hc]at hx;exact hx⟩)
theorem pureP_ext {AP:Nat→Option AFn} {f:Nat} {sp:List AV→Sto→Option (AOut×Sto)} {args:List AV} {R:AV→Prop} {v v':AV} {s:Sto} (hf:AP f=some (.ext sp)) (h:sp args ⟨[],0⟩=some (.ok v,s)) (hs:snap s.σ snapDepth v=some v') (hR:R v'):PureP AP f args R:=
 ⟨v',⟨1,by simp only[pureCall,run,hf,h];exact hs⟩,hR⟩
theorem ixP {l:List UInt8}:PureP (findFn tab) 126 [.str l,.fn 127 []] (· =.int .i64 (firstBad l)):=
 pureP_ext rfl rfl rfl rfl
theorem firstBad_iff {l:List UInt8}:firstBad l<0↔∀c∈l,badB c=false:=by
 unfold firstBad
 cases h:List.findIdx? badB l with
 |none=>
  refine⟨fun _ c hc=>?_,fun _=>by decide⟩
  have:=List.findIdx?_eq_none_iff.1 h c hc
  simpa using this
 |some i=>
  refine⟨fun h=>?_,fun ha=>?_⟩
  ·simp at h;omega
  ·obtain⟨h1,h2,_⟩:=List.findIdx?_eq_some_iff_getElem.1 h
   rw[ha _ (List.getElem_mem h1)]at h2
   cases h2
def inR (n:Int):Prop:=-1000000000000000≤n∧n≤1000000000000000
instance (n:Int):Decidable (inR n):=by unfold inR;infer_instance
theorem inP {n:Int}:PureP (findFn tab) 124 [.int .i64 n] (· =.bool (decide (inR n))):=by
 refine pureP_of rfl rfl ?_
 (conv=>whnf);repeat' (first|(refine kA ?_;conv=>whnf)|(refine Br.mk (fun hc=>?_) fun hc=>?_<;>first|exact hc.elim|conv=>whnf)  |(refine kB ?_))
 all_goals first|exact bool_t (by unfold inR;omega)|exact bool_f (by unfold inR;omega)
theorem inP2 {n:Int}:PureP (findFn tab) 141 [.int .i64 n] (· =.bool (decide (inR n))):=by
 refine pureP_of rfl rfl ?_
 (conv=>whnf);repeat' (first|(refine kA ?_;conv=>whnf)|(refine Br.mk (fun hc=>?_) fun hc=>?_<;>first|exact hc.elim|conv=>whnf)  |(refine kB ?_))
 all_goals first|exact bool_t (by unfold inR;omega)|exact bool_f (by unfold inR;omega)
def okS (s:List UInt8):Prop:=s.length≤100∧∀c∈s,badB c=false
instance (s:List UInt8):Decidable (okS s):=by unfold okS;infer_instance
def leafV (v:GV):Prop:=v.d=0∧v.l.length=0∧(v.k=1∧v.s=[]∧(v.n=0∨v.n=1)∨v.k=2∧v.s=[]∧inR v.n∨v.k=4∧v.n=0∧okS v.s)
instance (v:GV):Decidable (leafV v):=by unfold leafV;infer_instance
def kindP (v:GV):Prop:=v.k=1∨v.k=2∨v.k=4
instance (v:GV):Decidable (kindP v):=by unfold kindP;infer_instance
theorem leaf_kind {v:GV} (h:leafV v):kindP v:=by unfold leafV at h;unfold kindP;omega
theorem leaf_1 {v:GV} (h:v.k=1) (h1:v.d=0) (h2:v.l.length=0) (h3:v.s=[]) (h4:v.n=0∨v.n=1):leafV v:=⟨h1,h2,.inl ⟨h,h3,h4⟩⟩
theorem leaf_2 {v:GV} (h:v.k=2) (h1:v.d=0) (h2:v.l.length=0) (h3:v.s=[]) (h4:inR v.n):leafV v:=⟨h1,h2,.inr (.inl ⟨h,h3,h4⟩)⟩
theorem leaf_4 {v:GV} (h:v.k=4) (h1:v.d=0) (h2:v.l.length=0) (h3:v.n=0) (h4:okS v.s):leafV v:=⟨h1,h2,.inr (.inr ⟨h,h3,h4⟩)⟩
theorem leaf_s {v:GV} (h:leafV v) (hk:v.k≠4):v.s=[]:=by
 obtain⟨_,_,h⟩:=h
 rcases h with h|h|h
 ·exact h.2.1
 ·exact h.2.1
 ·exact absurd h.1 hk
theorem leaf_n {v:GV} (h:leafV v) (hk:v.k=1):v.n=0∨v.n=1:=by
 obtain⟨_,_,h⟩:=h;omega
theorem leaf_r {v:GV} (h:leafV v) (hk:v.k=2):inR v.n:=by
 obtain⟨_,_,h⟩:=h
 rcases h with h|h|h<;>first|exact h.2.2|omega
theorem leaf_z {v:GV} (h:leafV v) (hk:v.k=4):v.n=0∧okS v.s:=by
 obtain⟨_,_,h⟩:=h
 rcases h with h|h|h<;>first|exact h.2|omega
theorem vld {v:GV} (hv:v.ok) (hk:kindP v) {n:Int}:PureP (findFn tab) 90 [v.av,.int .i64 n] (· =.bool (decide (leafV v))):=by
 obtain⟨g1,g2,g3,g4,g5,g6,g7⟩:=hv
 unfold Ln at g4 g5
 unfold kindP at hk
 refine pureP_of rfl rfl ?_
 (conv=>whnf);repeat' (first|(refine kA ?_;conv=>whnf)|(refine Br.mk (fun hc=>?_) fun hc=>?_<;>first|exact hc.elim|conv=>whnf)|(refine callB (inP (n:=v.n)) (fun hr=>?_) (fun hr=>?_)<;>conv=>whnf)|(refine callK_of (ixP (l:=v.s)) ?_;rintro _ rfl;conv=>whnf)|(refine kB ?_))
 all_goals first
  |exact bool_f (fun h=>by have:=h.2.1;omega)
  |(refine bool_t ?_;clear g7 g6;unfold leafV okS;rw[← firstBad_iff];first|(simp_all;done)|(simp_all;omega))
  |(refine bool_f ?_;clear g7 g6;unfold leafV okS;rw[← firstBad_iff];first|(simp_all;done)|(simp_all;omega))
theorem vldV {v:GV} (hv:v.ok) (hk:kindP v):PureP (findFn tab) 68 [v.av] (· =.bool (decide (leafV v))):=by
 refine pureP_of rfl rfl ?_
 (conv=>whnf);repeat' (first|(refine kA ?_;conv=>whnf)|(refine Br.mk (fun hc=>?_) fun hc=>?_<;>first|exact hc.elim|conv=>whnf)|(refine callB (vld (v:=v) hv hk) (fun hr=>?_) (fun hr=>?_)<;>conv=>whnf)|(refine kB ?_))
 all_goals first|exact bool_t (by assumption)|exact bool_f (by assumption)
theorem plain1 {v:GV} (hv:v.ok):PureP (findFn tab) 48 [v.av] (· =.bool (decide (leafV v))):=by
 refine pureP_of rfl rfl ?_
 (conv=>whnf);repeat' (first|(refine kA ?_;conv=>whnf)|(refine Br.mk (fun hc=>?_) fun hc=>?_<;>first|exact hc.elim|conv=>whnf)|(refine callB (vldV (v:=v) hv (by unfold kindP;omega)) (fun hr=>?_) (fun hr=>?_)<;>conv=>whnf)|(refine kB ?_))
 all_goals first|exact bool_t (by assumption)|exact bool_f (by assumption)|exact bool_f fun h=>absurd (leaf_kind h) (by unfold kindP;omega)
section
def rises (l:List (List UInt8)):Prop:=∀j (h:j+1<l.length),(Op.bytesLess l[j+1] l[j]||l[j+1]==l[j])=false
noncomputable instance (l:List (List UInt8)):Decidable (rises l):=Classical.propDecidable _
structure GT where
 k:Int
 vn:Bool
 vars:List Int
 name:List UInt8
 tn:Bool
 types:List (List UInt8)
 v:GV
def GT.av (a:GT):AV:=.agg [.int .i64 a.k,.sl a.vn (vs (.int .i64) a.vars),.str a.name,.sl a.tn (vs .str a.types),.int .i64 a.v.k,.int .i64 a.v.n,.int .i64 a.v.d,.str a.v.s,.sl a.v.nn a.v.l]
def GT.ok (a:GT):Prop:=I64 a.k∧(a.vn=false→a.vars=[])∧Ln a.vars∧(∀ x∈a.vars,I64 x)∧Ln a.name∧(a.tn=false→a.types=[])∧Ln a.types∧(∀ s∈a.types,Ln s)∧a.v.ok
structure GQ where
 vn:Bool
 vars:List (List UInt8)
 an:Bool
 atoms:List GT
def GQ.av (c:GQ):AV:=.agg [.sl c.vn (vs .str c.vars),.sl c.an (vs GT.av c.atoms)]
def GQ.ok (c:GQ):Prop:=(c.vn=false→c.vars=[])∧Ln c.vars∧(∀ s∈c.vars,Ln s)∧(c.an=false→c.atoms=[])∧Ln c.atoms∧∀a∈c.atoms,a.ok
theorem c_ints:Tryz.prog.cellsOf 33=1:=by kernel_rfl
theorem c_atom:Tryz.prog.cellsOf 48=9:=by kernel_rfl
theorem c_atoms:Tryz.prog.cellsOf 23=1:=by kernel_rfl
theorem c_conj:Tryz.prog.cellsOf 25=2:=by kernel_rfl
theorem like_i64 {d:Nat} {a:AV} (h:like Tryz.prog d 3 a):∃s:Int,a=.int .i64 s∧I64 s:=by
 obtain⟨k,e1,h1⟩:=like_int Tryz.underlying3 h
 exact⟨k,e1,i64_of h1⟩
theorem len_suc {l:List AV} {n:Nat} (h:l.length=n+1):∃a r,l=a::r∧r.length=n:=by
 cases l with
 |nil=>simp at h
 |cons a r=>exact⟨a,r,rfl,by simpa using h⟩
theorem like_atom {d:Nat} {a:AV} (h:like Tryz.prog d 48 a):∃m:GT,a=m.av∧m.ok:=by
 obtain⟨cs,rfl,h0⟩:=like_struct Tryz.underlying48 h
 obtain⟨d',rfl,g1,g2⟩:=likeC_struct Tryz.underlying48 h0
 rw[c_atom]at g1
 obtain⟨a1,r1,rfl,q1⟩:=len_suc g1
 obtain⟨a2,r2,rfl,q2⟩:=len_suc q1
 obtain⟨a3,r3,rfl,q3⟩:=len_suc q2
 obtain⟨a4,r4,rfl,q4⟩:=len_suc q3
 obtain⟨b1,b2,b3,b4,b5,rfl⟩:=len5 q4
 clear g1 q1 q2 q3 q4
 simp only[List.forall_mem_cons]at g2
 obtain⟨f1,f2,f3,f4,f5,_⟩:=g2
 simp only[c_int,c_string,c_value,c_ints,c_strings,List.drop_zero,List.drop_succ_cons,List.take_succ_cons,List.take_zero]at f1 f2 f3 f4 f5
 obtain⟨k,e1,h1⟩:=likeC_i f1
 obtain⟨vn,V,e2,h2,h2a,h2b⟩:=likeC_map (f:=.int .i64) (Q:=I64) Tryz.underlying33 (fun d x h=>like_i64 h) f2
 obtain⟨s3,e3,h3⟩:=likeC_s f3
 obtain⟨tn,L,e4,h4,h4a,h4b⟩:=likeC_map (f:=.str) (Q:=Ln) Tryz.underlying22 (fun d x h=>like_str h) f4
 obtain⟨v,e5,h5⟩:=likeC_value f5
 cases e1;cases e2;cases e3;cases e4;cases e5
 exact⟨⟨k,vn,V,s3,tn,L,v⟩,rfl,h1,h2,h2a,h2b,h3,h4,h4a,h4b,h5⟩
theorem like_conj {a:AV} (h:Like Tryz.prog 25 a):∃c:GQ,a=c.av∧c.ok:=by
 obtain⟨d,h⟩:=h
 obtain⟨cs,rfl,h0⟩:=like_struct Tryz.underlying25 h
 obtain⟨d',rfl,g1,g2⟩:=likeC_struct Tryz.underlying25 h0
 rw[c_conj]at g1
 obtain⟨a1,r1,rfl,q1⟩:=len_suc g1
 obtain⟨a2,r2,rfl,q2⟩:=len_suc q1
 obtain rfl:r2=[]:=List.eq_nil_of_length_eq_zero q2
 clear g1 q1 q2
 simp only[List.forall_mem_cons]at g2
 obtain⟨f1,f2,_⟩:=g2
 simp only[c_strings,c_atoms,List.drop_zero,List.drop_succ_cons,List.take_succ_cons,List.take_zero]at f1 f2
 obtain⟨vn,V,e1,h1,h1a,h1b⟩:=likeC_map (f:=.str) (Q:=Ln) Tryz.underlying22 (fun d x h=>like_str h) f1
 obtain⟨an,A,e2,h2,h2a,h2b⟩:=likeC_map (f:=GT.av) (Q:=GT.ok) Tryz.underlying23 (fun d x h=>like_atom h) f2
 cases e1;cases e2
 exact⟨⟨vn,V,an,A⟩,rfl,h1,h1a,h1b,h2,h2a,h2b⟩
def arityI (k:Int):Nat:=if k=1∨k=2∨k=4 then 1 else if k=3 then 3 else 0
def FormA (a:GT):Prop:=arityI a.k≠0∧a.vars.length=arityI a.k∧rises a.types∧(a.k≠3→a.types=[])∧(a.k≠1→a.k≠2→a.name=[])∧(a.k=2→leafV a.v)∧(a.k≠2→isNull a.v)
noncomputable instance (a:GT):Decidable (FormA a):=Classical.propDecidable _
def RangeA (n:Nat) (a:GT):Prop:=∀v∈a.vars,0≤v∧v<n
noncomputable instance (n:Nat) (a:GT):Decidable (RangeA n a):=Classical.propDecidable _
def NamedA (a:GT):Prop:=(∀ t∈a.types,isName t)∧(a.k=1∨a.k=2→isName a.name)
noncomputable instance (a:GT):Decidable (NamedA a):=Classical.propDecidable _
def UsedA (l:List GT) (n:Nat):Prop:=∀i:Nat,i<n→∃a∈l,(i:Int)∈a.vars
noncomputable instance (l:List GT) (n:Nat):Decidable (UsedA l n):=Classical.propDecidable _
open Classical in
noncomputable def chkQ (c:GQ):Int:=
 if 24<c.vars.length∨12<c.atoms.length then 4
 else if∀a∈c.atoms,FormA a∧RangeA c.vars.length a then
  if c.vars.Nodup then
   if∀a∈c.atoms,NamedA a then
    if UsedA c.atoms c.vars.length then 0 else 25
   else 6
  else 7
 else 1
def withI (x:Int):List Int→List Int
 |[]=>[x]
 |y::l=>if y=x then y::l else if x<y then x::y::l else y::withI x l
def varsI (l:List Int):List Int:=l.foldl (fun o x=>withI x o) []
theorem mem_withI {x z:Int}:∀{l:List Int},z∈withI x l↔z=x∨z∈l
 |[]=>by simp[withI]
 |y::l=>by
  unfold withI
  split
  ·rename_i h;subst h;simp
  ·split
   ·simp
   ·simp only[List.mem_cons,mem_withI (l:=l)]
    constructor
    ·rintro(h|h|h)<;>simp[h]
    ·rintro(h|h|h)<;>simp[h]
theorem withI_pw {x:Int}:∀{l:List Int},l.Pairwise (· <·)→(withI x l).Pairwise (· <·)
 |[],_=>by simp[withI]
 |y::l,h=>by
  obtain⟨h1,h2⟩:=List.pairwise_cons.1 h
  unfold withI
  split
  ·exact h
  ·split
   ·refine List.pairwise_cons.2 ⟨fun z hz=>?_,h⟩
    rcases List.mem_cons.1 hz with rfl|hz
    ·assumption
    ·have:=h1 z hz;omega
   ·refine List.pairwise_cons.2 ⟨fun z hz=>?_,withI_pw h2⟩
    rcases mem_withI.1 hz with rfl|hz
    ·omega
    ·exact h1 z hz
theorem foldI:∀(l o:List Int),o.Pairwise (· <·)→(l.foldl (fun o x=>withI x o) o).Pairwise (· <·)∧∀z,z∈l.foldl (fun o x=>withI x o) o↔z∈o∨z∈l
 |[],o,h=>⟨h,by simp⟩
 |x::l,o,h=>by
  obtain⟨h1,h2⟩:=foldI l (withI x o) (withI_pw h)
  refine⟨h1,fun z=>?_⟩
  rw[List.foldl_cons,h2,mem_withI,List.mem_cons]
  constructor
  ·rintro((h|h)|h)<;>simp[h]
  ·rintro(h|h|h)<;>simp[h]
theorem varsI_pw (l:List Int):(varsI l).Pairwise (· <·):=(foldI l [] .nil).1
theorem mem_varsI {l:List Int} {z:Int}:z∈varsI l↔z∈l:=by
 unfold varsI
 rw[(foldI l [] .nil).2 z]
 simp
theorem incI_unique:∀{l m:List Int},l.Pairwise (· <·)→m.Pairwise (· <·)→(∀ z,z∈l↔z∈m)→l=m
 |[],[],_,_,_=>rfl
 |[],y::m,_,_,h=>absurd ((h y).2 (by simp)) (by simp)
 |x::l,[],_,_,h=>absurd ((h x).1 (by simp)) (by simp)
 |x::l,y::m,hl,hm,h=>by
  obtain⟨l1,l2⟩:=List.pairwise_cons.1 hl
  obtain⟨m1,m2⟩:=List.pairwise_cons.1 hm
  have hxy:x=y:=by
   rcases List.mem_cons.1 ((h x).1 (by simp))with h1|h1
   ·exact h1
   ·rcases List.mem_cons.1 ((h y).2 (by simp))with h2|h2
    ·exact h2.symm
    ·have:=l1 y h2;have:=m1 x h1;omega
  subst hxy
  rw[incI_unique l2 m2 fun z=>?_]
  constructor
  ·intro hz
   rcases List.mem_cons.1 ((h z).1 (by simp[hz]))with h1|h1
   ·subst h1;exact absurd (l1 z hz) (by omega)
   ·exact h1
  ·intro hz
   rcases List.mem_cons.1 ((h z).2 (by simp[hz]))with h1|h1
   ·subst h1;exact absurd (m1 z hz) (by omega)
   ·exact h1
end
theorem frac_eq {a b c d:Nat} (hb:0<b) (hd:0<d) (h1:Nat.gcd a b=1) (h2:Nat.gcd c d=1) (h:a*d=c*b):a=c∧b=d:=by
 have e1:b ∣ d:=(Nat.Coprime.dvd_of_dvd_mul_left (k:=b) (m:=a) (n:=d) (by rw[Nat.Coprime,Nat.gcd_comm];exact h1) ⟨c,by rw[h,Nat.mul_comm]⟩)
 have e2:d ∣ b:=(Nat.Coprime.dvd_of_dvd_mul_left (k:=d) (m:=c) (n:=b) (by rw[Nat.Coprime,Nat.gcd_comm];exact h2) ⟨a,by rw[← h,Nat.mul_comm]⟩)
 have e3:=Nat.dvd_antisymm e1 e2
 subst e3
 exact⟨Nat.eq_of_mul_eq_mul_right hb h,rfl⟩
def VF (n d:Int):Prop:=1≤d∧d≤1000000000000000∧inR n∧Nat.gcd n.natAbs d.natAbs=1
instance (n d:Int):Decidable (VF n d):=by unfold VF;infer_instance
def VB (g:GV):Prop:=g.l.length=0∧(g.k=0∧g.n=0∧g.d=0∧g.s=[]∨g.k=1∧(g.n=0∨g.n=1)∧g.d=0∧g.s=[]∨g.k=2∧inR g.n∧g.d=0∧g.s=[]∨
 g.k=3∧2≤g.d∧VF g.n g.d∧g.s=[]∨g.k=4∧g.n=0∧g.d=0∧okS g.s∨(g.k=5∨g.k=6)∧1≤g.n∧g.n≤1000000∧g.d=0∧g.s=[])
instance (g:GV):Decidable (VB g):=by unfold VB;infer_instance
def VPa (l:List AV):Prop:=l.length % 2=1∧l.length≤25∧∀i (h:i<l.length),∃x:GV,l[i]=x.av∧x.k=5+i % 2∧VB x
def VV:Nat→GV→Prop
 |0,g=>VB g∨g.k=7∧g.n=0∧g.d=0∧g.s=[]∧VPa g.l
 |m+1,g=>VB g∨g.k=7∧g.n=0∧g.d=0∧g.s=[]∧VPa g.l∨g.k=8∧g.n=0∧g.d=0∧g.s=[]∧g.l.length≤64∧∀i (h:i<g.l.length),∃x:GV,g.l[i]=x.av∧VV m x
theorem VV_mono:∀{m:Nat} {g:GV},VV m g→VV (m+1) g
 |0,g,h=>by
  rcases h with h|h
  ·exact .inl h
  ·exact .inr (.inl h)
 |m+1,g,h=>by
  rcases h with h|h|⟨h1,h2,h3,h4,h5,h6⟩
  ·exact .inl h
  ·exact .inr (.inl h)
  ·exact .inr (.inr ⟨h1,h2,h3,h4,h5,fun i hi=>by obtain⟨x,e,hx⟩:=h6 i hi;exact⟨x,e,VV_mono hx⟩⟩)
theorem GV.av_inj {g h:GV} (e:g.av=h.av):g=h:=by
 obtain⟨k,n,d,s,nn,l⟩:=g
 obtain⟨k',n',d',s',nn',l'⟩:=h
 simp only[GV.av,AV.agg.injEq,List.cons.injEq,AV.int.injEq,AV.str.injEq,AV.sl.injEq,true_and,and_true]at e
 obtain⟨rfl,rfl,rfl,rfl,rfl,rfl⟩:=e
 rfl
def Alk:Nat→GV→GV→Prop
 |0,_,_=>False
 |d+1,g,h=>g.k=h.k∧g.n=h.n∧g.d=h.d∧g.s=h.s∧g.l.length=h.l.length∧∀(i:Nat) (x y:GV),g.l[i]?=some x.av→h.l[i]?=some y.av→Alk d x y
theorem gcd_step (x y:Nat):Nat.gcd y (x % y)=Nat.gcd x y:=by
 rw[Nat.gcd_comm x y,Nat.gcd_rec y x,Nat.gcd_comm]
theorem absP {n:Int} (h:inR n):PureP (findFn tab) 158 [.int .i64 n] (· =.int .i64 n.natAbs):=by
 unfold inR at h
 have e:(if 0-n>n then 0-n else n)=(n.natAbs:Int):=by split<;>omega
 refine pureP_of rfl rfl ?_
 (conv=>whnf);repeat' (first  |(refine kA ?_;conv=>whnf)|(refine Br.mk (fun hc=>?_) fun hc=>?_<;>first|exact hc.elim|conv=>whnf)|(refine kB ?_))
 rw[← e];rfl
theorem gcdP {n d:Int} (hn:inR n) (hd:inR d):PureP (findFn tab) 149 [.int .i64 n,.int .i64 d] (· =.int .i64 (Nat.gcd n.natAbs d.natAbs)):=by
 have hn':=hn
 have hd':=hd
 unfold inR at hn' hd'
 refine pureP_of rfl rfl ?_
 (conv=>whnf);repeat' (first|(refine callB (inP (n:=n)) (fun hr=>?_) (fun hr=>absurd hn hr);conv=>whnf)|(refine callB (inP (n:=d)) (fun hr=>?_) (fun hr=>absurd hd hr);conv=>whnf)|(refine callK_of (absP hn) ?_;rintro _ rfl;conv=>whnf)|(refine callK_of (absP hd) ?_;rintro _ rfl;conv=>whnf)|(refine kA ?_;conv=>whnf)|(refine Br.mk (fun hc=>?_) fun hc=>?_<;>first|exact hc.elim|conv=>whnf)|(refine kB ?_))
 refine loop_inv (fun m env s=>∃(x y:Nat),m=1*y∧x<2^63∧y<2^63∧Nat.gcd x y=Nat.gcd n.natAbs d.natAbs∧env=[(0,.int .i64 x),(1,.int .i64 y)]∧s=⟨[],0⟩) ?_ _ _ _ ⟨n.natAbs,d.natAbs,(Nat.one_mul _).symm,by omega,by omega,rfl,rfl,rfl⟩
 clear hn hd hn' hd'
 rintro m _ _ ⟨x,y,hm,hx,hy,hg,rfl,rfl⟩
 have hm2:y=m:=by omega
 subst hm2
 refine⟨rfl,?_⟩
 (conv=>whnf);repeat' (first  |(refine kA ?_;conv=>whnf)|(refine Br.mk (fun hc=>?_) fun hc=>?_<;>first|exact hc.elim|conv=>whnf)|(refine kB ?_))
 ·have h0:y=0:=by omega
  subst h0
  rw[Nat.gcd_zero_right]at hg
  rw[← hg];rfl
 ·have h0:0<y:=by omega
  have:=Nat.mod_lt x h0
  exact again.mk ⟨_,this,y,x % y,(Nat.one_mul _).symm,hy,by omega,by rw[gcd_step];exact hg,by rw[Int.ofNat_tmod],rfl⟩
theorem VF_no1 {n d:Int} (h:¬(1≤d∧d≤1000000000000000∧inR n)):¬VF n d:=fun hv=>h ⟨hv.1,hv.2.1,hv.2.2.1⟩
theorem fvP {n d:Int}:PureP (findFn tab) 125 [.agg [.int .i64 n,.int .i64 d]] (· =.bool (decide (VF n d))):=by
 by_cases h:1≤d∧d≤1000000000000000∧inR n
 ·obtain⟨h1,h2,h3⟩:=h
  have hg:=gcdP h3 (show inR d by unfold inR;omega)
  refine pureP_of rfl rfl ?_
  (conv=>whnf);repeat' (first|(refine callB (inP (n:=n)) (fun hr=>?_) (fun hr=>absurd h3 hr);conv=>whnf)|(refine callK_of hg ?_;rintro _ rfl;conv=>whnf)|(refine kA ?_;conv=>whnf)|(refine Br.mk (fun hc=>?_) fun hc=>?_<;>first|exact hc.elim|conv=>whnf)|(refine kB ?_))
  all_goals first
   |exact bool_t ⟨h1,h2,h3,by omega⟩
   |exact bool_f fun hv=>by have:=hv.2.2.2;omega
   |trace_state
 ·have hno:=VF_no1 h
  have hnr:¬inR n∨¬(1≤d∧d≤1000000000000000):=by
   by_cases h3:inR n
   ·exact .inr fun h12=>h ⟨h12.1,h12.2,h3⟩
   ·exact .inl h3
  refine pureP_of rfl rfl ?_
  (conv=>whnf);repeat' (first|(refine callB (inP (n:=n)) (fun hr=>?_) (fun hr=>?_)<;>conv=>whnf)|(refine kA ?_;conv=>whnf)|(refine Br.mk (fun hc=>?_) fun hc=>?_<;>first|exact hc.elim|conv=>whnf)|(refine kB ?_))
  all_goals first
   |exact bool_f hno
   |(exfalso;rcases hnr with h|h;exact h hr;omega)
   |trace_state
theorem VB_k {g:GV} (h:VB g):g.k≤6:=by
 obtain⟨_,h⟩:=h
 rcases h with⟨h,_⟩|⟨h,_⟩|⟨h,_⟩|⟨h,_⟩|⟨h,_⟩|⟨h,_⟩<;>omega
theorem VV_b {m:Nat} {g:GV} (h7:g.k≠7) (h8:g.k≠8):VV m g↔VB g:=by
 cases m with
 |zero=>exact⟨fun h=>h.elim id fun h=>absurd h.1 h7,.inl⟩
 |succ m=>exact⟨fun h=>h.elim id fun h=>h.elim (fun h=>absurd h.1 h7) fun h=>absurd h.1 h8,.inl⟩
theorem VV_7 {m:Nat} {g:GV} (hk:g.k=7):VV m g↔g.n=0∧g.d=0∧g.s=[]∧VPa g.l:=by
 have hb:¬VB g:=fun h=>by have:=VB_k h;omega
 cases m with
 |zero=>exact⟨fun h=>h.elim (fun h=>absurd h hb) fun h=>h.2,fun h=>.inr ⟨hk,h⟩⟩
 |succ m=>exact⟨fun h=>h.elim (fun h=>absurd h hb) fun h=>h.elim (fun h=>h.2) fun h=>absurd h.1 (by omega),fun h=>.inr (.inl ⟨hk,h⟩)⟩
def VLi (m:Nat) (l:List AV):Prop:=∀i (h:i<l.length),∃x:GV,l[i]=x.av∧VV m x
theorem VV_8 {m:Nat} {g:GV} (hk:g.k=8):VV (m+1) g↔g.n=0∧g.d=0∧g.s=[]∧g.l.length≤64∧VLi m g.l:=by
 have hb:¬VB g:=fun h=>by have:=VB_k h;omega
 exact⟨fun h=>h.elim (fun h=>absurd h hb) fun h=>h.elim (fun h=>absurd h.1 (by omega)) fun h=>h.2,fun h=>.inr (.inr ⟨hk,h⟩)⟩
theorem VV0_8 {g:GV} (hk:g.k=8):¬VV 0 g:=fun h=>h.elim (fun h=>by have:=VB_k h;omega) fun h=>by have:=h.1;omega
noncomputable instance (m:Nat) (g:GV):Decidable (VV m g):=Classical.propDecidable _
noncomputable instance (l:List AV):Decidable (VPa l):=Classical.propDecidable _
noncomputable instance (m:Nat) (l:List AV):Decidable (VLi m l):=Classical.propDecidable _
theorem dec_iff {p q:Prop} [Decidable p] [Decidable q] (h:p↔q):AV.bool (decide p)=AV.bool (decide q):=by
 by_cases hp:p
 ·rw[decide_eq_true hp,decide_eq_true (h.1 hp)]
 ·rw[decide_eq_false hp,decide_eq_false (mt h.2 hp)]
set_option maxHeartbeats 1000000 in
theorem vbP {g:GV} (hg:g.ok) (h7:g.k≠7) (h8:g.k≠8) {n:Int}:PureP (findFn tab) 90 [g.av,.int .i64 n] (· =.bool (decide (VB g))):=by
 obtain⟨g1,g2,g3,g4,g5,g6,g7⟩:=hg
 unfold Ln at g4 g5
 refine pureP_of rfl rfl ?_
 (conv=>whnf);repeat' (first|(refine callB (inP (n:=g.n)) (fun hr=>?_) (fun hr=>?_)<;>conv=>whnf)|(refine callB (fvP (n:=g.n) (d:=g.d)) (fun hr=>?_) (fun hr=>?_)<;>conv=>whnf)|(refine callK_of (ixP (l:=g.s)) ?_;rintro _ rfl;conv=>whnf)|(refine kA ?_;conv=>whnf)|(refine Br.mk (fun hc=>?_) fun hc=>?_<;>first|exact hc.elim|conv=>whnf)|(refine kB ?_))
 all_goals clear g7 g6
 all_goals first
  |exact bool_f fun h=>by have:=h.1;omega
  |(refine bool_t ?_;unfold VB okS;rw[← firstBad_iff];first|(simp_all;done)|(simp_all;omega))
  |(refine bool_f ?_;unfold VB okS;rw[← firstBad_iff];first|(simp_all;done)|(simp_all;omega))
  |trace_state
theorem VPa_take {l:List AV} {i:Nat} (hi:i<l.length) {x:GV} (e:l[i]=x.av) (hk:x.k=5+(i:Int) % 2) (hv:VB x) (h:∀j (hj:j<l.length),j<i→∃x:GV,l[j]=x.av∧x.k=5+(j:Int) % 2∧VB x):
 ∀j (hj:j<l.length),j<i+1→∃x:GV,l[j]=x.av∧x.k=5+(j:Int) % 2∧VB x:=by
 intro j hj hji
 rcases Nat.lt_or_ge j i with h1|h1
 ·exact h j hj h1
 ·obtain rfl:j=i:=by omega
  exact⟨x,e,hk,hv⟩
set_option maxHeartbeats 1000000 in
theorem pathP {l:List AV} {nn:Bool} (hl:l.length<2^63) (h:∀x∈l,Like Tryz.prog 46 x):PureP (findFn tab) 128 [.sl nn l] (· =.bool (decide (VPa l))):=by
 have htm:(l.length:Int).tmod 2=(l.length:Int) % 2:=Int.tmod_eq_emod_of_nonneg (by omega)
 by_cases hlen:l.length % 2=1∧l.length≤25
 ·obtain⟨hl1,hl2⟩:=hlen
  refine pureP_of rfl rfl ?_
  (conv=>whnf);repeat' (first  |(refine kA ?_;conv=>whnf)|(refine Br.mk (fun hc=>?_) fun hc=>?_<;>first|exact hc.elim|conv=>whnf)|(refine kB ?_))
  refine loop_inv (fun m env s=>∃i c:Nat,m=l.length-i∧i≤l.length∧(∀ j (hj:j<l.length),j<i→∃x:GV,l[j]=x.av∧x.k=5+(j:Int) % 2∧VB x)∧env=[(15,.sl nn l),(16,.int .i64 l.length),(17,.int .i64 i)]∧s=⟨[],c⟩) ?_ _ _ _ ⟨0,_,rfl,by omega,fun j _ hj=>absurd hj (by omega),rfl,rfl⟩
  rintro _ _ _ ⟨i,c,rfl,hi,hx,rfl,rfl⟩
  refine⟨rfl,?_⟩
  by_cases hlt:i<l.length
  ·obtain⟨gx,hgx⟩:=like_at h i
   obtain⟨hn,he,hok⟩:=hgx hlt
   have hno:¬(gx.k=5+(i:Int) % 2∧VB gx)→¬VPa l:=fun hh hv=>by
        obtain⟨x,e,hx2⟩:=hv.2.2 i hlt
        rw[he]at e
        rw[GV.av_inj e]at hh
        exact hh hx2
   have h2:(i:Int).tmod 2=(i:Int) % 2:=Int.tmod_eq_emod_of_nonneg (by omega)
   have hnth:nth [AV.int .i64 5,AV.int .i64 6] (Int.toNat ((i:Int).tmod 2))=some (.int .i64 (5+(i:Int) % 2)):=by
        rw[h2]
        rcases Nat.mod_two_eq_zero_or_one i with hm|hm
        ·rw[show (i:Int) % 2=0 by omega];rfl
        ·rw[show (i:Int) % 2=1 by omega];rfl
   (conv=>whnf);repeat' (first|(apply nthK_intro;(· first|exact hn|exact hnth);conv=>whnf)|(refine callB (vbP (g:=gx) hok (by omega) (by omega) (n:=0)) (fun hr=>?_) (fun hr=>?_)<;>conv=>whnf)|(refine kA ?_;conv=>whnf)|(refine Br.mk (fun hc=>?_) fun hc=>?_<;>first|exact hc.elim|conv=>whnf)|(refine kB ?_))
   all_goals first
        |exact again.mk ⟨_,by omega,i+1,_,rfl,by omega,VPa_take hlt he (by omega) hr hx,rfl,rfl⟩
        |exact bool_f (hno fun hh=>by have:=hh.1;omega)
        |exact bool_f (hno fun hh=>hr hh.2)
        |trace_state
  ·rw[show i=l.length by omega]at hx
   (conv=>whnf);repeat' (first  |(refine kA ?_;conv=>whnf)|(refine Br.mk (fun hc=>?_) fun hc=>?_<;>first|exact hc.elim|conv=>whnf)|(refine kB ?_))
   exact bool_t ⟨hl1,hl2,fun j hj=>hx j hj hj⟩
 ·have hno:¬VPa l:=fun hv=>hlen ⟨hv.1,hv.2.1⟩
  refine pureP_of rfl rfl ?_
  (conv=>whnf);repeat' (first  |(refine kA ?_;conv=>whnf)|(refine Br.mk (fun hc=>?_) fun hc=>?_<;>first|exact hc.elim|conv=>whnf)|(refine kB ?_))
  all_goals first|exact bool_f hno|trace_state
theorem v7 {g:GV} (hg:g.ok) (hk:g.k=7) {n:Int}:PureP (findFn tab) 90 [g.av,.int .i64 n] (· =.bool (decide (g.n=0∧g.d=0∧g.s=[]∧VPa g.l))):=by
 obtain⟨g1,g2,g3,g4,g5,g6,g7⟩:=hg
 unfold Ln at g4 g5
 refine pureP_of rfl rfl ?_
 (conv=>whnf);repeat' (first|(refine callB (pathP (l:=g.l) (nn:=g.nn) g5 g7) (fun hr=>?_) (fun hr=>?_)<;>conv=>whnf)|(refine kA ?_;conv=>whnf)|(refine Br.mk (fun hc=>?_) fun hc=>?_<;>first|exact hc.elim|conv=>whnf)|(refine kB ?_))
 all_goals first
  |exact bool_t ⟨by omega,by omega,by assumption,hr⟩
  |exact bool_f fun h=>hr h.2.2.2
  |exact bool_f fun h=>by have:=h.1;omega
  |exact bool_f fun h=>by have:=h.2.1;omega
  |exact bool_f fun h=>absurd h.2.2.1 (by assumption)
  |trace_state
theorem VL_take {m:Nat} {l:List AV} {i:Nat} (hi:i<l.length) {x:GV} (e:l[i]=x.av) (hv:VV m x) (h:∀j (hj:j<l.length),j<i→∃x:GV,l[j]=x.av∧VV m x):
 ∀j (hj:j<l.length),j<i+1→∃x:GV,l[j]=x.av∧VV m x:=by
 intro j hj hji
 rcases Nat.lt_or_ge j i with h1|h1
 ·exact h j hj h1
 ·obtain rfl:j=i:=by omega
  exact⟨x,e,hv⟩
set_option maxHeartbeats 1000000 in
theorem v8 {g:GV} (hg:g.ok) (hk:g.k=8) {z:Int} (hz:0≤z∧z<8) {m:Nat} (ih:∀{x:GV},x.ok→PureP (findFn tab) 90 [x.av,.int .i64 (z+1)] (· =.bool (decide (VV m x)))):
 PureP (findFn tab) 90 [g.av,.int .i64 z] (· =.bool (decide (g.n=0∧g.d=0∧g.s=[]∧g.l.length≤64∧VLi m g.l))):=by
 obtain⟨g1,g2,g3,g4,g5,g6,g7⟩:=hg
 unfold Ln at g4 g5
 refine pureP_of rfl rfl ?_
 (conv=>whnf);repeat' (first  |(refine kA ?_;conv=>whnf)|(refine Br.mk (fun hc=>?_) fun hc=>?_<;>first|exact hc.elim|conv=>whnf)|(refine kB ?_))
 all_goals first
  |exact bool_f fun h=>by have:=h.1;omega
  |exact bool_f fun h=>by have:=h.2.1;omega
  |exact bool_f fun h=>by have:=h.2.2.2.1;omega
  |exact bool_f fun h=>absurd h.2.2.1 (by assumption)
  |skip
 have hs:g.s=[]:=by assumption
 have hn0:g.n=0:=by omega
 have hd0:g.d=0:=by omega
 have hl0:g.l.length≤64:=by omega
 refine loop_inv (fun mm env s=>∃i c:Nat,mm=g.l.length-i∧i≤g.l.length∧(∀ j (hj:j<g.l.length),j<i→∃x:GV,g.l[j]=x.av∧VV m x)∧env=[(1,.int .i64 z),(120,.sl g.nn g.l),(121,.int .i64 g.l.length),(122,.int .i64 i)]∧s=⟨[.arr 0 5 true true [g.av]],c⟩) ?_ _ _ _ ⟨0,_,rfl,by omega,fun j _ hj=>absurd hj (by omega),rfl,rfl⟩
 rintro _ _ _ ⟨i,c,rfl,hi,hx,rfl,rfl⟩
 refine⟨rfl,?_⟩
 by_cases hlt:i<g.l.length
 ·obtain⟨gx,hgx⟩:=like_at g7 i
  obtain⟨hn,he,hok⟩:=hgx hlt
  (conv=>whnf);repeat' (first|(apply nthK_intro;(· exact hn);conv=>whnf)|(refine callB (ih hok) (fun hr=>?_) (fun hr=>?_)<;>conv=>whnf)|(refine kA ?_;conv=>whnf)|(refine Br.mk (fun hc=>?_) fun hc=>?_<;>first|exact hc.elim|conv=>whnf)|(refine kB ?_))
  all_goals first
   |exact again.mk ⟨_,by omega,i+1,_,rfl,by omega,VL_take hlt he hr hx,rfl,rfl⟩
   |exact bool_f fun hh=>by
     obtain⟨x,e,hv⟩:=hh.2.2.2.2 i hlt
     rw[he]at e
     rw[GV.av_inj e]at hr
     exact hr hv
   |trace_state
 ·rw[show i=g.l.length by omega]at hx
  (conv=>whnf);repeat' (first  |(refine kA ?_;conv=>whnf)|(refine Br.mk (fun hc=>?_) fun hc=>?_<;>first|exact hc.elim|conv=>whnf)|(refine kB ?_))
  exact bool_t ⟨hn0,hd0,hs,hl0,fun j hj=>hx j hj hj⟩
theorem v8no {g:GV} (hg:g.ok) (hk:g.k=8):PureP (findFn tab) 90 [g.av,.int .i64 8] (· =.bool false):=by
 obtain⟨g1,g2,g3,g4,g5,g6,g7⟩:=hg
 unfold Ln at g4 g5
 refine pureP_of rfl rfl ?_
 (conv=>whnf);repeat' (first  |(refine kA ?_;conv=>whnf)|(refine Br.mk (fun hc=>?_) fun hc=>?_<;>first|exact hc.elim|conv=>whnf)|(refine kB ?_))
 all_goals rfl
theorem validP:∀(m:Nat),m≤8→∀{g:GV},g.ok→PureP (findFn tab) 90 [g.av,.int .i64 (8-(m:Int))] (· =.bool (decide (VV m g))):=by
 intro m
 induction m with
 |zero=>
  intro _ g hg
  by_cases h7:g.k=7
  ·rw[show AV.bool (decide (VV 0 g))=_ from dec_iff (VV_7 h7)]
   exact v7 hg h7
  by_cases h8:g.k=8
  ·rw[decide_eq_false (VV0_8 h8)]
   exact v8no hg h8
  rw[show AV.bool (decide (VV 0 g))=AV.bool (decide (VB g)) from dec_iff (VV_b h7 h8)]
  exact vbP hg h7 h8
 |succ m ih=>
  intro hm g hg
  by_cases h7:g.k=7
  ·rw[show AV.bool (decide (VV (m+1) g))=_ from dec_iff (VV_7 h7)]
   exact v7 hg h7
  by_cases h8:g.k=8
  ·rw[show AV.bool (decide (VV (m+1) g))=_ from dec_iff (VV_8 h8)]
   exact v8 hg h8 (by omega) fun{x} hx=>by
        rw[show (8-((m+1:Nat):Int))+1=8-(m:Int) by omega]
        exact ih (by omega) hx
  rw[show AV.bool (decide (VV (m+1) g))=AV.bool (decide (VB g)) from dec_iff (VV_b h7 h8)]
  exact vbP hg h7 h8
theorem ValidP {g:GV} (hg:g.ok):PureP (findFn tab) 68 [g.av] (· =.bool (decide (VV 8 g))):=by
 have h:=validP 8 (by omega) hg
 rw[show (8-((8:Nat):Int))=0 by omega]at h
 refine pureP_of rfl rfl ?_
 (conv=>whnf);repeat' (first|(refine callB h (fun hr=>?_) (fun hr=>?_)<;>conv=>whnf)|(refine kA ?_;conv=>whnf)|(refine Br.mk (fun hc=>?_) fun hc=>?_<;>first|exact hc.elim|conv=>whnf)|(refine kB ?_))
 all_goals first|exact bool_t hr|exact bool_f hr
theorem nan {x:Int}:PureP (findFn tab) 94 [.int .i64 x] (· =.bool (decide False)):=by
 refine pureP_of rfl rfl ?_
 (conv=>whnf);repeat' (first  |(refine kA ?_;conv=>whnf)|(refine Br.mk (fun hc=>?_) fun hc=>?_<;>first|exact hc.elim|conv=>whnf)|(refine kB ?_))
 all_goals first|exact absurd rfl hc|rfl
def cmpI (x y:Int):Int:=if x<y then -1 else if y<x then 1 else 0
theorem compare {x y:Int}:PureP (findFn tab) 71 [.int .i64 x,.int .i64 y] (· =.int .i64 (cmpI x y)):=by
 refine pureP_of rfl rfl ?_
 (conv=>whnf);repeat' (first|(refine callB nan (fun hc=>absurd hc id) (fun _=>?_);conv=>whnf)|(refine kA ?_;conv=>whnf)|(refine Br.mk (fun hc=>?_) fun hc=>?_<;>first|exact hc.elim|conv=>whnf)|(refine kB ?_))
 all_goals unfold cmpI;first|(rw [if_pos (by omega)];rfl)|(rw [if_neg (by omega),if_pos (by omega)];rfl)|(rw [if_neg (by omega),if_neg (by omega)];rfl)
theorem cmpI_neg {x y:Int}:cmpI x y<0↔x<y:=by unfold cmpI;split<;>(try split)<;>omega
theorem cmpI_zero {x y:Int}:cmpI x y=0↔x=y:=by unfold cmpI;split<;>(try split)<;>omega
end AI
end Go.Proofs.YtlbjddhbkhgceaaGreatDoor
