/- What an abstract value stands for in a world; the invariant of a store; how both outlive a step. -/
import Derived.Test.YtiimoiecghmebaaDoorFComp
import Derived.Below
import Derived.WalkKit
namespace Go.Proofs.YtiimoiecghmebaaDoor
namespace AI
open Go.RowKit
def Yh (es:Array MapEntry) (clock:Nat):Prop:=(es.toList.map (·.born)).Nodup∧∀x∈es.toList.map (·.born),x<clock
inductive NQ where
 |nil
 |zc
 |row (b es n:Nat)
 |pend
abbrev D8:=Nat→NQ
abbrev Bh:=Nat→Nat→Prop
section
variable (w:World) (Z:Bh) (φ:D8) (ctr:Nat)
inductive Rep:AV→Value→Prop where
 |bool (b:Bool):Rep (.bool b) (.bool b)
 |int (k:IntKind) (n:Int):Rep (.int k n) (.int k n)
 |str (s:ByteArray) (l:List UInt8) (h:s.data.toList=l):Rep (.str l) (.string s)
 |EI:Rep (.sl false []) (.slice none 0 0)
 |sl (xs:List AV) (n b off cap es:Nat) (f:Nat→Nat→Value) (hn:n=xs.length) (hcap:n≤cap) (hes:0<es)
   (hsz:∀(i:Nat) (x:AV),xs[i]?=some x→x.cells.length=es)
   (hc:∀(i:Nat) (x:AV) (j:Nat) (c:AV),xs[i]?=some x→x.cells[j]?=some c→Z b (off+i*es+j)∧w.cell? ⟨b,off+i*es+j,none⟩=some (f i j)∧c.closed=true∧c.one=true)
   (hr:∀(i:Nat) (x:AV) (j:Nat) (c:AV),xs[i]?=some x→x.cells[j]?=some c→Rep c (f i j)):
   Rep (.sl true xs) (.slice (some ⟨b,off,none⟩) n cap)
 |sl0 (a:Addr):Rep (.sl true []) (.slice (some a) 0 0)
 |zc (a:Addr):Rep .zc (.slice (some a) 0 0)
 |own (o g off len b es size cap:Nat) (a:Addr) (hg:g<ctr) (hφ:φ g=.row b es size) (hcap:len≤cap)
   (ha:0<len∨off=0→a=⟨b,off*es,none⟩∧(off+cap)*es=size∧cap≤maxLen) (hs:a.spot=none):
   Rep (.own o g off len) (.slice (some a) len cap)
 |BP (o g:Nat) (hg:g<ctr) (hφ:φ g=.nil):Rep (.own o g 0 0) (.slice none 0 0)
 |Dz (o g:Nat) (a:Addr) (hg:g<ctr) (hφ:φ g=.zc):Rep (.own o g 0 0) (.slice (some a) 0 0)
 |agg (cs:List AV) (vs:Array Value) (hl:cs.length=vs.size) (ho:∀(i:Nat) (c:AV),cs[i]?=some c→c.one=true)
   (hr:∀(i:Nat) (c:AV),cs[i]?=some c→Rep c (vs.getD i undef)):Rep (.agg cs) (.agg vs)
 |Dy (cs:List AV) (vs:Array Value) (hl:cs.length=vs.size)
   (hr:∀(i:Nat) (c:AV),cs[i]?=some c→Rep c (vs.getD i undef)):Rep (.Dy cs) (.tuple vs)
 |ref (o g i off b es size:Nat) (hg:g<ctr) (hφ:φ g=.row b es size):Rep (.ref o g i off) (.pointer (some ⟨b,i*es+off,none⟩))
 |CS (cs:List AV) (b off:Nat) (f:Nat→Value)
   (hc:∀(j:Nat) (c:AV),cs[j]?=some c→Z b (off+j)∧w.cell? ⟨b,off+j,none⟩=some (f j)∧c.closed=true∧c.one=true)
   (hr:∀(j:Nat) (c:AV),cs[j]?=some c→Rep c (f j)):Rep (.CS cs) (.pointer (some ⟨b,off,none⟩))
 |fn (f:Nat) (cs:List AV) (vs:Array Value) (hl:cs.length=vs.size)
   (hr:∀(i:Nat) (c:AV),cs[i]?=some c→Rep c (vs.getD i undef)):Rep (.fn f cs) (.func (.func f) #[] vs)
 |map (o g b es size:Nat) (hg:g<ctr) (hφ:φ g=.row b es size):Rep (.map o g) (.map (some b))
 |fmap (ents:List (AV×AV)) (b:Nat) (es:Array MapEntry) (clock:Nat) (f:Nat→MapEntry) (hz:Z b 0) (hw:w.heap[b]?=some (.map es clock)) (hst:Yh es clock) (hn:es.size=ents.length)
   (hf:∀(i:Nat) (e:AV×AV),ents[i]?=some e→es[i]?=some (f i)∧e.1.closed=true∧e.2.closed=true∧e.2.storable=true)
   (hk:∀(i:Nat) (e:AV×AV),ents[i]?=some e→Rep e.1 (f i).key) (hv:∀(i:Nat) (e:AV×AV),ents[i]?=some e→Rep e.2 (f i).val):
   Rep (.fmap ents) (.map (some b))
 |iface (t:Nat) (v:AV) (x:Value) (hr:Rep v x):Rep (.iface t v) (.iface t x)
 |IL:Rep .IL (.pointer none)
 |Cj:Rep .Cj (.map none)
 |ET:Rep .ET .nilFunc
 |Gl:Rep .Gl .nilIface
 |undef:Rep .undef undef
 |junk (v:Value):Rep .junk v
end
structure Later (B:Nat) (w:World) (Z:Bh) (φ:D8) (ctr:Nat) (w':World) (Z':Bh) (φ':D8) (BX:Nat):Prop where
 new:∀b i,Z' b i→Z b i∨B≤b
 mono:ctr≤BX
 cold:∀b i,Z b i→Z' b i
 cell:∀b i,Z b i→w'.heap[b]?=w.heap[b]?
 phi:∀g,g<ctr→φ' g=φ g
theorem Later.refl (B:Nat) (w:World) (Z:Bh) (φ:D8) (ctr:Nat):Later B w Z φ ctr w Z φ ctr:=
 ⟨fun _ _ h=>.inl h,Nat.le_refl _,fun _ _ h=>h,fun _ _ _=>rfl,fun _ _=>rfl⟩
variable {B:Nat} {w w' w'':World} {Z Z' WE:Bh} {φ φ' Zr:D8} {ctr BX Afo:Nat}
theorem Later.trans (h:Later B w Z φ ctr w' Z' φ' BX) (k:Later B w' Z' φ' BX w'' WE Zr Afo):
 Later B w Z φ ctr w'' WE Zr Afo:=
 ⟨fun b i z=>(k.new b i z).elim (h.new b i) .inr,Nat.le_trans h.mono k.mono,fun b i z=>k.cold b i (h.cold b i z),fun b i z=>(k.cell b i (h.cold b i z)).trans (h.cell b i z),
  fun g hg=>(k.phi g (Nat.lt_of_lt_of_le hg h.mono)).trans (h.phi g hg)⟩
theorem Rep.later (h:Later B w Z φ ctr w' Z' φ' BX) {a:AV} {v:Value} (r:Rep w Z φ ctr a v):Rep w' Z' φ' BX a v:=by
 induction r with
 |bool b=>exact .bool b
 |int k n=>exact .int k n
 |str s l hs=>exact .str s l hs
 |EI=>exact .EI
 |sl xs n b off cap es f hn hcap hes hsz hc hr ih=>
  refine .sl xs n b off cap es f hn hcap hes hsz (fun i x j c hx hj=>?_) ih
  obtain⟨z,hw,hcl,ho⟩:=hc i x j c hx hj
  exact⟨h.cold _ _ z,(World.cell?_of_block (h.cell _ _ z)).trans hw,hcl,ho⟩
 |sl0 a0=>exact .sl0 a0
 |zc a0=>exact .zc a0
 |own o g off len b es size cap a hg hφ hcap ha hs=>
  exact .own o g off len b es size cap a (Nat.lt_of_lt_of_le hg h.mono) ((h.phi g hg).trans hφ) hcap ha hs
 |BP o g hg hφ=>exact .BP o g (Nat.lt_of_lt_of_le hg h.mono) ((h.phi g hg).trans hφ)
 |Dz o g a0 hg hφ=>exact .Dz o g a0 (Nat.lt_of_lt_of_le hg h.mono) ((h.phi g hg).trans hφ)
 |agg cs vs hl ho hr ih=>exact .agg cs vs hl ho ih
 |Dy cs vs hl hr ih=>exact .Dy cs vs hl ih
 |ref o g i off b es size hg hφ=>exact .ref o g i off b es size (Nat.lt_of_lt_of_le hg h.mono) ((h.phi g hg).trans hφ)
 |CS cs b off f hc hr ih=>
  refine .CS cs b off f (fun j c hj=>?_) ih
  obtain⟨z,hw,hcl,ho⟩:=hc j c hj
  exact⟨h.cold _ _ z,(World.cell?_of_block (h.cell _ _ z)).trans hw,hcl,ho⟩
 |fn f cs vs hl hr ih=>exact .fn f cs vs hl ih
 |map o g b es size hg hφ=>exact .map o g b es size (Nat.lt_of_lt_of_le hg h.mono) ((h.phi g hg).trans hφ)
 |fmap ents b es clock f hz hw hst hn hf hk hv ihk ihv=>exact .fmap ents b es clock f (h.cold _ _ hz) ((h.cell _ _ hz).trans hw) hst hn hf ihk ihv
 |iface t v x hr ih=>exact .iface t v x ih
 |IL=>exact .IL
 |Cj=>exact .Cj
 |ET=>exact .ET
 |Gl=>exact .Gl
 |undef=>exact .undef
 |junk v=>exact .junk v
theorem DL {cs:List AV} (h:DU cs=true):∀(i:Nat) (c:AV),cs[i]?=some c→c.closed=true:=by
 induction cs with
 |nil=>intro i c hi;simp at hi
 |cons x xs ih=>
  simp only[DU,Bool.and_eq_true]at h
  intro i c hi
  cases i with
  |zero=>simp at hi;exact hi▸h.1
  |succ i=>exact ih h.2 i c (by simpa using hi)
theorem Dj {cs:List AV} (h:∀(i:Nat) (c:AV),cs[i]?=some c→c.closed=true):DU cs=true:=by
 induction cs with
 |nil=>rfl
 |cons x xs ih=>
  simp only[DU,Bool.and_eq_true]
  exact⟨h 0 x rfl,ih fun i c hi=>h (i+1) c (by simpa using hi)⟩
theorem Rep.shift (hc:∀b i,Z b i→Z' b i∧w'.heap[b]?=w.heap[b]?) {a:AV} {v:Value} (r:Rep w Z φ ctr a v) (h:a.closed=true):Rep w' Z' φ' BX a v:=by
 induction r with
 |bool b=>exact .bool b
 |int k n=>exact .int k n
 |str s l hs=>exact .str s l hs
 |EI=>exact .EI
 |sl xs n b off cap es f hn hcap hes hsz hcell hr ih=>
  refine .sl xs n b off cap es f hn hcap hes hsz (fun i x j c hx hj=>?_) (fun i x j c hx hj=>ih i x j c hx hj (hcell i x j c hx hj).2.2.1)
  obtain⟨z,hw,hcl,ho⟩:=hcell i x j c hx hj
  exact⟨(hc _ _ z).1,(World.cell?_of_block (hc _ _ z).2).trans hw,hcl,ho⟩
 |sl0 a0=>exact .sl0 a0
 |zc a0=>exact .zc a0
 |own=>simp[AV.closed]at h
 |BP=>simp[AV.closed]at h
 |Dz=>simp[AV.closed]at h
 |agg cs vs hl ho hr ih=>exact .agg cs vs hl ho fun i c hi=>ih i c hi (DL (by simpa[AV.closed]using h) i c hi)
 |Dy cs vs hl hr ih=>exact .Dy cs vs hl fun i c hi=>ih i c hi (DL (by simpa[AV.closed]using h) i c hi)
 |ref=>simp[AV.closed]at h
 |CS cs b off f hcell hr ih=>
  refine .CS cs b off f (fun j c hj=>?_) (fun j c hj=>ih j c hj (hcell j c hj).2.2.1)
  obtain⟨z,hw,hcl,ho⟩:=hcell j c hj
  exact⟨(hc _ _ z).1,(World.cell?_of_block (hc _ _ z).2).trans hw,hcl,ho⟩
 |fn f cs vs hl hr ih=>exact .fn f cs vs hl fun i c hi=>ih i c hi (DL (by simpa[AV.closed]using h) i c hi)
 |map=>simp[AV.closed]at h
 |fmap ents b es clock f hz hw hst hn hf hk hv ihk ihv=>exact .fmap ents b es clock f (hc _ _ hz).1 ((hc _ _ hz).2.trans hw) hst hn hf (fun i e he=>ihk i e he (hf i e he).2.1) (fun i e he=>ihv i e he (hf i e he).2.2.1)
 |iface t v x hr ih=>exact .iface t v x (ih (by simpa[AV.closed]using h))
 |IL=>exact .IL
 |Cj=>exact .Cj
 |ET=>exact .ET
 |Gl=>exact .Gl
 |undef=>exact .undef
 |junk v=>exact .junk v
def Holds (w:World) (Z:Bh) (φ:D8) (ctr:Nat) (c:Array Value) (es:Nat) (cl:Bool) (elems:List AV):Prop:=
 ∀(i:Nat) (x:AV),elems[i]?=some x→x.cells.length=es∧∀(j:Nat) (y:AV),x.cells[j]?=some y→
  ∃v,c[i*es+j]?=some v∧Rep w Z φ ctr y v∧y.one=true∧(cl=true→y.closed=true)
def DI (w:World) (Z:Bh) (φ:D8) (ctr B:Nat):Obj→Prop
 | .arr g es nn cl elems=>g<ctr∧0<es∧match φ g with
   | .nil=>nn=false∧elems=[]
   | .zc=>nn=true∧elems=[]
   | .pend=>False
   | .row b es' size=>nn=true∧es'=es∧B≤b∧(∀ i,¬Z b i)∧elems.length*es≤size∧
     ∃c t,w.heap[b]?=some (.cells c t (0,0))∧c.size=size∧Holds w Z φ ctr c es cl elems
 | .mp g cl ents=>g<ctr∧∃b es size,φ g=.row b es size∧B≤b∧∃es clock,w.heap[b]?=some (.map es clock)∧((es.size=ents.length∧Yh es clock)∧∀i,¬Z b i)∧
    ∀(i:Nat) (e:AV×AV),ents[i]?=some e→∃e',es[i]?=some e'∧Rep w Z φ ctr e.1 e'.key∧Rep w Z φ ctr e.2 e'.val∧e.2.storable=true∧(cl=true→e.2.closed=true)
 | .raw g x=>g<ctr∧∃b es size,φ g=.row b es size∧B≤b∧w.heap[b]?=some x∧∀i,¬Z b i
 | .dead=>True
def Obj.gen:Obj→Option Nat
 | .arr g ..=>some g
 | .mp g ..=>some g
 | .raw g _=>some g
 | .dead=>none
structure Inv (w0:World) (B:Nat) (s:Ag) (Z:Bh) (φ:D8) (w:World):Prop where
 below:Below B w0 w
 base:B≤w.heap.size
 objs:∀(o:Nat) (ob:Obj),s.σ[o]?=some ob→DI w Z φ s.ctr B ob
 apart:∀(o o':Nat) (ob ob':Obj) (g g' b e n e' n':Nat),s.σ[o]?=some ob→s.σ[o']?=some ob'→ob.gen=some g→ob'.gen=some g'→φ g=.row b e n→φ g'=.row b e' n'→o=o'
 live:∀b i,Z b i→b<w.heap.size
def Ak (w:World) (Z:Bh) (φ:D8) (ctr:Nat) (env:Env) (tmps:Array Value):Prop:=
 ∀t,Rep w Z φ ctr (env.get t) (tmps.getD t undef)
theorem Aj {α:Type}:∀(l:List α) (n:Nat),nth l n=l[n]?
 |[],n=>by simp[nth]
 |x::xs,0=>by simp[nth]
 |x::xs,n+1=>by simp[nth,Aj xs n]
end AI
end Go.Proofs.YtiimoiecghmebaaDoor
