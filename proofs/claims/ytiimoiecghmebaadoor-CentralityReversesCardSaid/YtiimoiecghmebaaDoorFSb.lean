/- Soundness, sixth part: slices and the small operations. Soundness, seventh part: new variables, stores. Soundness, eighth part: structs, literals, made slices. Soundness, ninth part: slices that the call makes. Soundness, tenth part: append. -/
import Derived.Test.YtiimoiecghmebaaDoorFSa
namespace Go.Proofs.YtiimoiecghmebaaDoor
namespace AI
open Go.RowKit
variable {P:Program} {B:Nat} {w w' w0:World} {Z Z':Bh} {φ φ':D8} {ctr BX:Nat} {s s':Ag}
theorem UJ {x:AV} {v:Value} (hr:Rep w Z φ ctr x v) {n m:Nat} (hb:bound x=some n) (hm:n≤m) (code:BoundsCode):(Instr.sliceBound v m code).run P w=.ok n w:=by
 unfold bound at hb
 split at hb
 ·rename_i k i
  split at hb
  ·rename_i h0
   simp only[Option.some.injEq]at hb
   subst hb
   cases hr
   have:i≤m:=by omega
   simp[Instr.sliceBound,asIntOf,h0,this]
  ·cases hb
 ·cases hb
def Nq (w:World) (Z:Bh) (φ:D8) (ctr:Nat) (env:Env):Option AO→Option Value→Prop
 |none,none=>True
 |some x,some v=>Rep w Z φ ctr (x.val env) v
 |_,_=>False
theorem Eu {env:Env} {lo hi:Option AO} {VK WG:Option Value} (hlo:Nq w Z φ ctr env lo VK) (hhi:Nq w Z φ ctr env hi WG) {len cap l h:Nat} (hb:bounds env len lo hi=some (l,h)) (hcap:len≤cap) (isS:Bool) (_hs:isS=false→len=cap):
 (Instr.sliceBounds isS len cap VK WG none).run P w=.ok (l,h,cap) w∧l≤h∧h≤len:=by
 unfold bounds at hb
 split at hb
 ·rename_i h' l' e1 e2
  split at hb
  ·rename_i hc
   simp only[Option.some.injEq,Prod.mk.injEq]at hb
   obtain⟨rfl,rfl⟩:=hb
   refine⟨?_,hc⟩
   have hi' : (match WG, (none : Option Value) with | some v, some _ => Instr.sliceBound v cap .slice3B | some v, none => Instr.sliceBound v cap (if isS then .sliceAcap else .sliceAlen) | none, none => pure len | none, some _ => stuck "Slice: max without high" : Sem Nat).run P w = .ok h' w := by
        cases hi with
        |none=>cases WG with
         |none=>simp only[Option.some.injEq]at e1;subst e1;rfl
         |some v=>exact hhi.elim
        |some x=>cases WG with
         |none=>exact hhi.elim
         |some v=>exact UJ hhi e1 (by omega) _
   have lo':(match VK with|some v=>Instr.sliceBound v h' .sliceB|none=>pure 0:Sem Nat).run P w=.ok l' w:=by
        cases lo with
        |none=>cases VK with
         |none=>simp only[Option.some.injEq]at e2;subst e2;rfl
         |some v=>exact hlo.elim
        |some x=>cases VK with
         |none=>exact hlo.elim
         |some v=>exact UJ hlo e2 hc.1 _
   unfold Instr.sliceBounds
   cases WG<;>cases VK<;>simp only[Sem.run_pure,Result.ok.injEq,and_true]at hi' lo'<;>simp[hi',lo']<;>simp_all
  ·cases hb
 ·cases hb
theorem getElem_sub {xs:List AV} {l n i:Nat} {x:AV} (h:(sub xs l n)[i]?=some x):xs[l+i]?=some x∧i<n:=by
 unfold sub at h
 rw[List.getElem?_take]at h
 split at h
 ·rename_i hn
  rw[List.getElem?_drop]at h
  exact⟨h,hn⟩
 ·cases h
theorem Iw {xs:List AV} {l n:Nat} (h:l+n≤xs.length):(sub xs l n).length=n:=by
 unfold sub;simp;omega
theorem Rep.Agi {xs:List AV} {n b off cap es:Nat} (hr:Rep w Z φ ctr (.sl true xs) (.slice (some ⟨b,off,none⟩) n cap)) (hsz:Bq es xs) (l h:Nat) (hl:l≤h) (hh:h≤xs.length) (_hlc:l<cap∨l=h):
 Rep w Z φ ctr (.sl true (sub xs l (h-l))) (.slice (some (if cap=l then⟨b,off,none⟩else⟨b,off+l*es,none⟩)) (h-l) (cap-l)):=by
 cases hr with
 |sl0=>
  obtain rfl:h=0:=by simpa using hh
  obtain rfl:l=0:=by omega
  simpa[sub]using Rep.sl0 (w:=w) (Z:=Z) (φ:=φ) (ctr:=ctr) ⟨b,off,none⟩
 |sl _ _ _ _ _ es' f hn hcap hes hsz' hc hr=>
  have hln:(sub xs l (h-l)).length=h-l:=Iw (by omega)
  by_cases hcl:cap=l
  ·rw[if_pos hcl]
   have h0:h-l=0:=by omega
   have hnil:sub xs l (h-l)=[]:=List.eq_nil_of_length_eq_zero (by omega)
   rw[hnil,h0]
   exact .sl [] 0 b off (cap-l) 1 (fun _ _=>Go.undef) rfl (by omega) (by omega) (fun i x hx=>by simp at hx) (fun i x j c hx=>by simp at hx) (fun i x j c hx=>by simp at hx)
  ·rw[if_neg hcl]
   by_cases hne:xs=[]
   ·subst hne
    have hnil:sub [] l (h-l)=([]:List AV):=by simp[sub]
    have h0:h-l=0:=by rw[hnil]at hln;simpa using hln.symm
    rw[hnil,h0]
    exact .sl [] 0 b _ (cap-l) 1 (fun _ _=>Go.undef) rfl (by omega) (by omega) (fun i x hx=>by simp at hx) (fun i x j c hx=>by simp at hx) (fun i x j c hx=>by simp at hx)
   ·have he:es'=es:=by
      obtain⟨x,xs',rfl⟩:=List.exists_cons_of_ne_nil hne
      rw[← hsz' 0 x rfl]
      exact hsz x (by simp)
    subst he
    refine .sl _ _ b (off+l*es') (cap-l) es' (fun i j=>f (l+i) j) hln.symm (by omega) hes (fun i x hx=>hsz' _ x (getElem_sub hx).1) (fun i x j c hx hj=>?_) (fun i x j c hx hj=>hr _ x j c (getElem_sub hx).1 hj)
    have:=hc _ x j c (getElem_sub hx).1 hj
    rw[show off+l*es'+i*es'+j=off+(l+i)*es'+j by rw[Nat.add_mul];omega]
    exact this
theorem AaN (hI:Inv w0 B s Z φ w) {t e:TypeId} {es:Nat} (hu:P.underlying t=some (.slice e)) (hes:Ba P e=some es) {x v:AV} {vx:Value} (hx:Rep w Z φ s.ctr x vx)
 {C:Aq} {env:Env} {ax:AO} {lo hi:Option AO} {VK WG:Option Value} (hlo:Nq w Z φ s.ctr env lo VK) (hhi:Nq w Z φ s.ctr env hi WG) (h1:ax.val env=x) (hev:Ae C (.slice es ax lo hi) env s=some (.ok v,s')):
 ∃z,(Instr.sliceAt t vx VK WG none).run P w=.ok z w∧Rep w Z φ s.ctr v z∧s'=s:=by
 have run:∀(a:Option Addr) (len cap l h:Nat),(Instr.sliceBounds true len cap VK WG none).run P w=.ok (l,h,cap) w→
  (Instr.sliceAt t (.slice a len cap) VK WG none).run P w=.ok (.slice (if cap=l then a else a.map (·.add (l*es))) (h-l) (cap-l)) w:=by
  intro a len cap l h hb
  simp[Instr.sliceAt,Instr.slice,run_underlying hu,hb,run_sizeOf hes]
 simp only[Ae,h1]at hev
 split at hev
 ·rename_i nn xs
  split at hev
  ·rename_i l h hb
   split at hev
   ·rename_i hsz
    simp only[Option.some.injEq,Prod.mk.injEq,AL.ok.injEq]at hev
    obtain⟨rfl,rfl⟩:=hev
    cases hx with
    |EI=>
     obtain⟨hb',hl,hh⟩:=Eu (P:=P) hlo hhi hb (Nat.le_refl _) true (fun h=>by cases h)
     simp only[List.length_nil,Nat.le_zero_eq]at hh hb'
     subst hh
     simp only[Nat.le_zero_eq]at hl
     subst hl
     exact⟨_,run _ _ _ _ _ hb',by simpa[sub]using Rep.EI,rfl⟩
    |sl0 a0=>
     obtain⟨hb',hl,hh⟩:=Eu (P:=P) hlo hhi hb (Nat.le_refl _) true (fun h=>by cases h)
     simp only[List.length_nil,Nat.le_zero_eq]at hh hb'
     subst hh
     simp only[Nat.le_zero_eq]at hl
     subst hl
     exact⟨_,run _ _ _ _ _ hb',by simpa[sub]using Rep.sl0 a0,rfl⟩
    |sl _ n b off cap es' f hn hcap hes' hsz' hc hr=>
     obtain⟨hb',hl,hh⟩:=Eu (P:=P) (cap:=cap) hlo hhi hb (by omega) true (fun h=>by cases h)
     refine⟨_,run _ _ _ _ _ (hn▸hb'),?_,rfl⟩
     have:=(Rep.sl xs n b off cap es' f hn hcap hes' hsz' hc hr).Agi hsz l h hl hh (by omega)
     by_cases hcl:cap=l
     ·simpa[hcl]using this
     ·simpa[hcl,Addr.add_lit]using this
   ·cases hev
  ·cases hev
 ·split at hev
  ·rename_i p hb
   obtain⟨l,h⟩:=p
   simp only[Option.some.injEq,Prod.mk.injEq,AL.ok.injEq]at hev
   obtain⟨rfl,rfl⟩:=hev
   cases hx with
   |zc a0=>
    obtain⟨hb',hl,hh⟩:=Eu (P:=P) hlo hhi hb (Nat.le_refl _) true (fun h=>by cases h)
    simp only[Nat.le_zero_eq]at hh
    subst hh
    simp only[Nat.le_zero_eq]at hl
    subst hl
    exact⟨_,run _ _ _ _ _ hb',by simpa using Rep.zc a0,rfl⟩
  ·cases hev
 ·rename_i o g off len
  split at hev
  ·rename_i g' es' nn cl elems ho
   split at hev
   ·rename_i hc
    obtain⟨rfl,rfl⟩:=hc
    split at hev
    ·rename_i l h hb
     simp only[Option.some.injEq,Prod.mk.injEq,AL.ok.injEq]at hev
     obtain⟨rfl,rfl⟩:=hev
     rw[Aj]at ho
     cases hx with
     |own _ _ _ _ b es' size cap a hg hφ hcap ha hs=>
      obtain⟨hb',hl,hh⟩:=Eu (P:=P) (cap:=cap) hlo hhi hb hcap true (fun h=>by cases h)
      have hob:=hI.objs o _ ho
      obtain⟨_,_,h3⟩:=hob
      rw[hφ]at h3
      obtain⟨_,he,_⟩:=h3
      subst he
      obtain⟨ab,ao,asp⟩:=a
      simp only at hs
      subst hs
      refine⟨_,run _ _ _ _ _ hb',?_,rfl⟩
      by_cases hcl:cap=l
      ·rw[if_pos hcl]
       refine .own _ _ _ _ b es' size _ _ hg hφ (by omega) (fun hor=>?_) rfl
       obtain⟨ha1,ha2,ha3⟩:=ha (by omega)
       have hl0:l=0:=by omega
       subst hl0
       exact⟨by simpa using ha1,by simpa using ha2,by omega⟩
      ·rw[if_neg hcl]
       simp only[Option.map_some,Addr.add_lit]
       refine .own _ _ _ _ b es' size _ _ hg hφ (by omega) (fun hor=>?_) rfl
       obtain⟨ha1,ha2,ha3⟩:=ha (by omega)
       simp only[Addr.mk.injEq,and_true]at ha1
       obtain⟨rfl,rfl⟩:=ha1
       refine⟨by rw[Nat.add_mul],?_,by omega⟩
       rw[show off+l+(cap-l)=off+cap by omega]
       exact ha2
     |BP _ _ hg hφ=>
      obtain⟨hb',hl,hh⟩:=Eu (P:=P) hlo hhi hb (Nat.le_refl _) true (fun h=>by cases h)
      simp only[Nat.le_zero_eq]at hh
      subst hh
      simp only[Nat.le_zero_eq]at hl
      subst hl
      exact⟨_,run _ _ _ _ _ hb',by simpa using Rep.BP o g hg hφ,rfl⟩
     |Dz _ _ a0 hg hφ=>
      obtain⟨hb',hl,hh⟩:=Eu (P:=P) hlo hhi hb (Nat.le_refl _) true (fun h=>by cases h)
      simp only[Nat.le_zero_eq]at hh
      subst hh
      simp only[Nat.le_zero_eq]at hl
      subst hl
      exact⟨_,run _ _ _ _ _ hb',by simpa using Rep.Dz o g a0 hg hφ,rfl⟩
    ·cases hev
   ·cases hev
  ·cases hev
 ·cases hev
theorem YL (hI:Inv w0 B s Z φ w) {t e:TypeId} {es:Nat} (hu:P.underlying t=some (.slice e)) (hes:Ba P e=some es) {x v:AV} {vx:Value} (hx:Rep w Z φ s.ctr x vx)
 {C:Aq} {env:Env} {ax:AO} {VK WG:Option Value} {k1 k2:IntKind} {vmx:Value} (hlo:VK=none∨∃k,VK=some (.int k 0)) (hhi:WG=some (.int k1 0)) (hmx:vmx=.int k2 0) (h1:ax.val env=x) (hev:Ae C (.Rl ax) env s=some (.ok v,s')):
 ∃z,(Instr.sliceAt t vx VK WG (some vmx)).run P w=.ok z w∧Rep w Z φ s.ctr v z∧s'=s:=by
 subst hhi hmx
 have run:∀(a:Option Addr) (len cap:Nat),(Instr.sliceAt t (.slice a len cap) VK (some (.int k1 0)) (some (.int k2 0))).run P w=.ok (.slice a 0 0) w:=by
  intro a len cap
  rcases hlo with rfl|⟨k,rfl⟩<;>simp[Instr.sliceAt,Instr.slice,Instr.sliceBounds,Instr.sliceBound,asIntOf,run_underlying hu,run_sizeOf hes]
 simp only[Ae,h1]at hev
 split at hev
 ·simp only[Option.some.injEq,Prod.mk.injEq,AL.ok.injEq]at hev
  obtain⟨rfl,rfl⟩:=hev
  cases hx with
  |sl0 a0=>exact⟨_,run _ _ _,.zc a0,rfl⟩
  |sl _ n b off cap es' f hn hcap hes' hsz' hc hr=>exact⟨_,run _ _ _,.zc ⟨b,off,none⟩,rfl⟩
 ·simp only[Option.some.injEq,Prod.mk.injEq,AL.ok.injEq]at hev
  obtain⟨rfl,rfl⟩:=hev
  cases hx with
  |EI=>exact⟨_,run _ _ _,.EI,rfl⟩
 ·simp only[Option.some.injEq,Prod.mk.injEq,AL.ok.injEq]at hev
  obtain⟨rfl,rfl⟩:=hev
  cases hx with
  |zc a0=>exact⟨_,run _ _ _,.zc a0,rfl⟩
 ·rename_i o g len
  split at hev
  ·rename_i g' es' nn cl elems ho
   rw[Aj]at ho
   have hob:=hI.objs o _ ho
   split at hev
   ·rename_i hg;subst hg
    obtain⟨_,_,h3⟩:=hob
    cases hx with
    |own _ _ _ _ b es' size cap a hg hφ hcap ha hs=>
     rw[hφ]at h3
     obtain⟨hnn,_⟩:=h3
     subst hnn
     simp only[if_true,Option.some.injEq,Prod.mk.injEq,AL.ok.injEq]at hev
     obtain⟨rfl,rfl⟩:=hev
     obtain⟨ab,ao,asp⟩:=a
     simp only at hs
     subst hs
     exact⟨_,run _ _ _,.zc _,rfl⟩
    |BP _ _ hg hφ=>
     rw[hφ]at h3
     obtain⟨hnn,_⟩:=h3
     subst hnn
     simp only[Bool.false_eq_true,if_false,Option.some.injEq,Prod.mk.injEq,AL.ok.injEq]at hev
     obtain⟨rfl,rfl⟩:=hev
     exact⟨_,run _ _ _,.EI,rfl⟩
    |Dz _ _ a0 hg hφ=>
     rw[hφ]at h3
     obtain⟨hnn,_⟩:=h3
     subst hnn
     simp only[if_true,Option.some.injEq,Prod.mk.injEq,AL.ok.injEq]at hev
     obtain⟨rfl,rfl⟩:=hev
     exact⟨_,run _ _ _,.zc _,rfl⟩
   ·cases hev
  ·cases hev
 ·cases hev
theorem YM {t:TypeId} (hu:P.underlying t=some .string) {x v:AV} {vx:Value} (hx:Rep w Z φ s.ctr x vx)
 {C:Aq} {env:Env} {ax:AO} {lo hi:Option AO} {VK WG:Option Value} (hlo:Nq w Z φ s.ctr env lo VK) (hhi:Nq w Z φ s.ctr env hi WG) (h1:ax.val env=x) (hev:Ae C (.KC ax lo hi) env s=some (.ok v,s')):
 ∃z,(Instr.sliceAt t vx VK WG none).run P w=.ok z w∧Rep w Z φ s.ctr v z∧s'=s:=by
 simp only[Ae,h1]at hev
 split at hev
 ·rename_i bs
  split at hev
  ·rename_i l h hb
   simp only[Option.some.injEq,Prod.mk.injEq,AL.ok.injEq]at hev
   obtain⟨rfl,rfl⟩:=hev
   cases hx with
   |str sb _ hs=>
    have hsz:sb.size=bs.length:=by rw[← hs];simp
    obtain⟨hb',hl,hh⟩:=Eu (P:=P) hlo hhi hb (Nat.le_refl _) false (fun _=>rfl)
    refine⟨.string (sb.extract l h),?_,.str _ _ ?_,rfl⟩
    ·rw[← hsz]at hb'
     simp[Instr.sliceAt,Instr.slice,run_underlying hu,hb']
    ·rw[← hs]
     simp[ByteArray.data_extract,List.extract_eq_take_drop]
  ·cases hev
 ·cases hev
theorem Aej (hI:Inv w0 B s Z φ w) {t ty:TypeId} {k:IQ} (hu:(k=.str∧P.underlying t=some .string)∨(k=.slice∧∃e,P.underlying t=some (.slice e))∨(k=.map∧∃a e,P.underlying t=some (.map a e))) {x v:AV} {vx:Value} (hx:Rep w Z φ s.ctr x vx)
 {C:Aq} {env:Env} {ax:AO} (h1:ax.val env=x) (hev:Ae C (.len k ax) env s=some (.ok v,s')):
 ∃z,(Builtin.len_ #[t] ty #[vx]).run P w=.ok z w∧Rep w Z φ s.ctr v z∧s'=s:=by
 rcases hu with⟨rfl,hu⟩|⟨rfl,e,hu⟩|⟨rfl,a,e,hu⟩
 ·simp only[Ae,h1]at hev
  cases x<;>simp only[Option.some.injEq,Prod.mk.injEq,AL.ok.injEq,reduceCtorEq]at hev
  obtain⟨rfl,rfl⟩:=hev
  cases hx with
  |str sb _ hs=>
   refine⟨_,?_,.int _ _,rfl⟩
   simp[Builtin.len_,run_underlying hu,goInt,←hs]
 ·simp only[Ae,h1]at hev
  cases x<;>simp only[Option.some.injEq,Prod.mk.injEq,AL.ok.injEq,reduceCtorEq]at hev
  all_goals (obtain ⟨rfl,rfl⟩:=hev;cases hx<;>refine⟨_,?_,.int _ _,rfl⟩<;>simp[Builtin.len_,run_underlying hu,goInt]<;>simp_all)
 ·simp only[Ae,h1]at hev
  cases x<;>simp only[Option.some.injEq,Prod.mk.injEq,AL.ok.injEq,reduceCtorEq]at hev
  ·rename_i o g
   split at hev
   ·rename_i g' cl ents ho
    split at hev
    ·rename_i hg;subst hg
     simp only[Option.some.injEq,Prod.mk.injEq,AL.ok.injEq]at hev
     obtain⟨rfl,rfl⟩:=hev
     rw[Aj]at ho
     obtain⟨_,b',es',size',h3,_,es2,clock,h5,h6,_⟩:=hI.objs o _ ho
     cases hx with
     |map _ _ b es size hg hφ=>
      rw[hφ]at h3
      simp only[NQ.row.injEq]at h3
      obtain⟨rfl,_⟩:=h3
      refine⟨_,?_,.int _ _,rfl⟩
      have hgo:(getObj b).run P w=.ok (.map es2 clock) w:=by simp[getObj,Sem.run,h5]
      simp[Builtin.len_,run_underlying hu,goInt,hgo,h6.1.1]
    ·cases hev
   ·cases hev
  ·obtain⟨rfl,rfl⟩:=hev
   cases hx with
   |fmap ents b es clock f hz hw hst hn hf hk hv=>
    have hgo:(getObj b).run P w=.ok (.map es clock) w:=by simp[getObj,Sem.run,hw]
    exact⟨_,by simp[Builtin.len_,run_underlying hu,goInt,hgo,hn],.int _ _,rfl⟩
  ·obtain⟨rfl,rfl⟩:=hev
   cases hx
   exact⟨_,by simp[Builtin.len_,run_underlying hu,goInt],.int _ _,rfl⟩
theorem Agj {op:UnOp} {x v:AV} {vx:Value} (hx:Rep w Z φ s.ctr x vx) {C:Aq} {env:Env} {ax:AO} (h1:ax.val env=x) (hev:Ae C (.un op ax) env s=some (.ok v,s')):
 ∃z,(Op.unary op vx).run P w=.ok z w∧Rep w Z φ s.ctr v z∧s'=s:=by
 simp only[Ae,h1]at hev
 split at hev
 ·simp only[Option.some.injEq,Prod.mk.injEq,AL.ok.injEq]at hev
  obtain⟨rfl,rfl⟩:=hev
  cases hx
  exact⟨_,by simp[Op.unary],.bool _,rfl⟩
 ·simp only[Option.some.injEq,Prod.mk.injEq,AL.ok.injEq]at hev
  obtain⟨rfl,rfl⟩:=hev
  cases hx
  rename_i k n
  exact⟨.int k (k.wrap (0-n)),by simp[Op.unary,Op.intArith],.int _ _,rfl⟩
 ·cases hev
theorem Acm {src dst:TypeId} {k k':IntKind} (hs:P.underlying src=some (.int k')) (hd:P.underlying dst=some (.int k)) {x v:AV} {vx:Value} (hx:Rep w Z φ s.ctr x vx) {C:Aq} {env:Env} {ax:AO} (h1:ax.val env=x) (hev:Ae C (.conv k ax) env s=some (.ok v,s')):
 ∃z,(convert src dst vx).run P w=.ok z w∧Rep w Z φ s.ctr v z∧s'=s:=by
 simp only[Ae,h1]at hev
 split at hev
 ·simp only[Option.some.injEq,Prod.mk.injEq,AL.ok.injEq]at hev
  obtain⟨rfl,rfl⟩:=hev
  cases hx
  exact⟨_,by simp[convert,run_underlying hs,run_underlying hd,Conv.intToInt],.int _ _,rfl⟩
 ·cases hev
theorem AaO {src dst:TypeId} (hs:P.underlying src=some .string) (hd:P.underlying dst=some .string) {x v:AV} {vx:Value} (hx:Rep w Z φ s.ctr x vx) {C:Aq} {env:Env} {ax:AO} (h1:ax.val env=x) (hev:Ae C (.convs ax) env s=some (.ok v,s')):
 ∃z,(convert src dst vx).run P w=.ok z w∧Rep w Z φ s.ctr v z∧s'=s:=by
 simp only[Ae,h1]at hev
 split at hev
 ·simp only[Option.some.injEq,Prod.mk.injEq,AL.ok.injEq]at hev
  obtain⟨rfl,rfl⟩:=hev
  cases hx with
  |str sb l h=>exact⟨_,by simp[convert,run_underlying hs,run_underlying hd],.str sb _ h,rfl⟩
 ·cases hev
theorem AaP {t:TypeId} {fs:Array Field} {f:Nat} {fd:Field} {sz:Option Nat} (hu:P.underlying t=some (.struct fs)) (hf:fs[f]?=some fd) (ht:szT P fd.type=some sz) {x v:AV} {vx:Value} (hx:Rep w Z φ s.ctr x vx)
 {C:Aq} {env:Env} {ax:AO} (h1:ax.val env=x) (hev:Ae C (.field fd.offset sz ax) env s=some (.ok v,s')):
 ∃z,(Instr.field t vx f).run P w=.ok z w∧Rep w Z φ s.ctr v z∧s'=s:=by
 simp only[Ae,h1]at hev
 split at hev
 ·rename_i cs
  unfold ok at hev
  cases hl:AI.loadCells (cs.drop fd.offset) sz with
  |none=>simp[hl]at hev
  |some v'=>
   simp only[hl,Option.map_some,Option.some.injEq,Prod.mk.injEq,AL.ok.injEq]at hev
   obtain⟨rfl,rfl⟩:=hev
   obtain⟨vs,rfl,hlen,ho,hr⟩:=QT hx
   obtain⟨z,hz1,hz2⟩:=Oj (P:=P) ht hlen ho hr hl
   exact⟨z,by simp[Instr.field,run_underlying hu,hf,asAgg,hz1],hz2,rfl⟩
 ·cases hev
theorem Aek {i:Nat} {x v:AV} {vx:Value} (hx:Rep w Z φ s.ctr x vx) {C:Aq} {env:Env} {ax:AO} (h1:ax.val env=x) (hev:Ae C (.ext ax i) env s=some (.ok v,s')):
 ∃z,(Instr.extract vx i).run P w=.ok z w∧Rep w Z φ s.ctr v z∧s'=s:=by
 simp only[Ae,h1]at hev
 split at hev
 ·rename_i cs
  unfold ok at hev
  cases hl:nth cs i with
  |none=>simp[hl]at hev
  |some v'=>
   simp only[hl,Option.map_some,Option.some.injEq,Prod.mk.injEq,AL.ok.injEq]at hev
   obtain⟨rfl,rfl⟩:=hev
   rw[Aj]at hl
   cases hx with
   |Dy _ vs hlen hr=>
    have hlt:i<vs.size:=by
     have:=(List.getElem?_eq_some_iff.1 hl).1
     omega
    refine⟨vs[i],by simp[Instr.extract,Array.getElem?_eq_getElem hlt],?_,rfl⟩
    have:=hr i _ hl
    simpa[Array.getD_eq_getD_getElem?,Array.getElem?_eq_getElem hlt]using this
 ·cases hev
theorem RJ {x y v:AV} {vx vy:Value} (hx:Rep w Z φ s.ctr x vx) (hy:Rep w Z φ s.ctr y vy) {C:Aq} {env:Env} {ax ay:AO} (h1:ax.val env=x) (h2:ay.val env=y) (ts:Array TypeId) (ty:TypeId):
 (Ae C (.min ax ay) env s=some (.ok v,s')→∃z,(Builtin.min_ ts ty #[vx,vy]).run P w=.ok z w∧Rep w Z φ s.ctr v z∧s'=s)∧
 (Ae C (.max ax ay) env s=some (.ok v,s')→∃z,(Builtin.max_ ts ty #[vx,vy]).run P w=.ok z w∧Rep w Z φ s.ctr v z∧s'=s):=by
 constructor
 all_goals
  intro hev
  simp only[Ae,h1,h2]at hev
  split at hev
  ·simp only[Option.some.injEq,Prod.mk.injEq,AL.ok.injEq]at hev
   obtain⟨rfl,rfl⟩:=hev
   cases hx;cases hy
   exact⟨_,by simp[Builtin.min_,Builtin.max_,Builtin.min2,Builtin.max2,List.foldlM],.int _ _,rfl⟩
  ·cases hev
end AI
end Go.Proofs.YtiimoiecghmebaaDoor
namespace Go.Proofs.YtiimoiecghmebaaDoor
namespace AI
open Go.RowKit
variable {P:Program} {B:Nat} {w w' w0:World} {Z Z':Bh} {φ φ':D8} {ctr BX:Nat} {s s':Ag}
def Qc (w0:World) (B:Nat) (w:World) (Z:Bh) (φ:D8) (ctr:Nat) (s':Ag) (v:AV) (r:Result Value):Prop:=
 ∃x w' Z' φ',r=.ok x w'∧Inv w0 B s' Z' φ' w'∧Rep w' Z' φ' s'.ctr v x∧Later B w Z φ ctr w' Z' φ' s'.ctr
theorem holds_one {v:AV} {x:Value} (hr:Rep w Z φ ctr v x) (hs:v.storable=true):Holds w Z φ ctr x.cells v.cells.length v.closed [v]:=by
 obtain⟨hl,hc⟩:=hr.FI hs
 intro i y hy
 cases i with
 |zero=>
  simp only[List.getElem?_cons_zero,Option.some.injEq]at hy
  subst hy
  refine⟨rfl,fun j c hj=>?_⟩
  obtain⟨u,h1,h2,h3⟩:=hc j c hj
  exact⟨u,by simpa using h1,h2,h3,fun h=>JU h j c hj⟩
 |succ i=>simp at hy
theorem Nr (hI:Inv w0 B s Z φ w) (t:TypeId) {es:Nat} (hes:0<es) {v:AV} {x:Value} (hr:Rep w Z φ s.ctr v x) (hs:v.storable=true) (hl:v.cells.length=es):
 ∃w' φ',(newVar t x).run P w=.ok ⟨w.heap.size,0,none⟩ w'∧Inv w0 B (push s (.arr s.ctr es true v.closed [v])) Z φ' w'∧
  Rep w' Z φ' (s.ctr+1) (.ref s.σ.length s.ctr 0 0) (.pointer (some ⟨w.heap.size,0,none⟩))∧Later B w Z φ s.ctr w' Z φ' (s.ctr+1):=by
 have hlen:=(hr.FI hs).1
 have hH:=holds_one hr hs
 rw[hl]at hH
 obtain⟨h1,h2⟩:=hI.newRow (Dv w (.cells x.cells t)) (Nat.le_refl _) (c:=x.cells) (t:=t) (heap_alloc_new w _) hes (by simp;omega) hH
 refine⟨_,_,?_,h1,?_,h2⟩
 ·simp[newVar,Go.newRow]
 ·have:=Rep.ref (w:=w.alloc (.cells x.cells t)) (Z:=Z) (φ:=Bd φ s.ctr (.row w.heap.size es x.cells.size)) (ctr:=s.ctr+1) s.σ.length s.ctr 0 0 w.heap.size es x.cells.size (by omega) (Af _ _ _)
  simpa using this
theorem D5 {t:TypeId} {n:Nat} {z:AV} (h:Et P t=some (n,z)):∃i zv,P.info? t=some i∧i.size=n∧0<n∧i.zero=some zv∧ofValue zv=some z∧z.cells.length=n∧Ba P t=some n:=by
 unfold Et at h
 split at h
 ·rename_i i m hi hc
  split at h
  ·rename_i zv hz
   split at h
   ·rename_i v hv
    split at h
    ·rename_i hl
     simp only[Option.some.injEq,Prod.mk.injEq]at h
     obtain⟨rfl,rfl⟩:=h
     obtain⟨i',hi',hn,h0⟩:=DN hc
     rw[hi]at hi'
     cases hi'
     exact⟨i,zv,hi,hn,h0,hz,hv,hl,hc⟩
    ·cases h
   ·cases h
  ·cases h
 ·cases h
theorem C9 {t:TypeId} {i:TypeInfo} {zv:Value} (hi:P.info? t=some i) (hz:i.zero=some zv) (w:World):(zeroValue t).run P w=.ok zv w:=by
 simp[zeroValue,typeInfo,hi,hz]
theorem AaQ (hI:Inv w0 B s Z φ w) {t:TypeId} {es:Nat} {z v:AV} (hz:Et P t=some (es,z)) {C:Aq} {env:Env} (hev:Ae C (.alloc es z) env s=some (.ok v,s')) (old:Value):
 Qc w0 B w Z φ s.ctr s' v ((Instr.alloc t true old).run P w):=by
 simp only[Ae,Option.some.injEq,Prod.mk.injEq,AL.ok.injEq]at hev
 obtain⟨rfl,rfl⟩:=hev
 obtain⟨i,zv,hi,hn,h0,hzv,hov,hl,_⟩:=D5 hz
 obtain⟨hr,_,hs⟩:=Du (w:=w) (Z:=Z) (φ:=φ) (ctr:=s.ctr) hov
 obtain⟨w',φ',h1,h2,h3,h4⟩:=Nr (P:=P) hI t h0 hr hs hl
 refine⟨_,w',Z,φ',?_,h2,h3,h4⟩
 simp[Instr.alloc,C9 hi hzv,h1]
theorem Ael (hI:Inv w0 B s Z φ w) {t:TypeId} {es:Nat} (hes:Ba P t=some es) {x v:AV} {vx:Value} (hx:Rep w Z φ s.ctr x vx) {C:Aq} {env:Env} {ax:AO} (h1:ax.val env=x) (hev:Ae C (.box es ax) env s=some (.ok v,s')):
 Qc w0 B w Z φ s.ctr s' v ((Instr.box t vx).run P w):=by
 simp only[Ae,h1]at hev
 split at hev
 ·rename_i hc
  simp only[Bool.and_eq_true,beq_iff_eq]at hc
  simp only[Option.some.injEq,Prod.mk.injEq,AL.ok.injEq]at hev
  obtain⟨rfl,rfl⟩:=hev
  obtain⟨_,_,_,h0⟩:=DN hes
  obtain⟨w',φ',k1,k2,k3,k4⟩:=Nr (P:=P) hI t h0 hx hc.1 hc.2
  exact⟨_,w',Z,φ',by simp[Instr.box,k1],k2,k3,k4⟩
 ·cases hev
theorem F9 {α:Type} (cur news:List α) (o:Nat) (ho:o+news.length≤cur.length) (k:Nat):
 (cur.take o++news++cur.drop (o+news.length))[k]?=if o≤k∧k<o+news.length then news[k-o]? else cur[k]?:=by
 have hto:(cur.take o).length=o:=by simp;omega
 by_cases h1:k<o
 ·rw[if_neg (by omega),List.append_assoc,List.getElem?_append_left (by omega),List.getElem?_take_of_lt h1]
 ·by_cases h2:k<o+news.length
  ·rw[if_pos ⟨by omega,h2⟩,List.append_assoc,List.getElem?_append_right (by omega),hto,List.getElem?_append_left (by omega)]
  ·rw[if_neg (by omega),List.getElem?_append_right (by simp;omega),List.getElem?_drop]
   congr 1
   simp;omega
theorem Jm {x y:AV} {off:Nat} (h:off+y.cells.length≤x.cells.length):(Bg x off y).cells=x.cells.take off++y.cells++x.cells.drop (off+y.cells.length):=by
 unfold Bg
 split
 ·rename_i hc
  obtain⟨rfl,hl⟩:=hc
  rw[Nat.zero_add,hl]
  simp
 ·rfl
theorem Oo {x y:AV} {off:Nat} (h:off+y.cells.length≤x.cells.length):(Bg x off y).cells.length=x.cells.length:=by
 rw[Jm h];simp;omega
theorem QB {t ty:TypeId} {b off n:Nat} {cur:Array Value} {x:Value} (hb:w.heap[b]?=some (.cells cur t (0,0))) (hn:Ba P ty=some n) (hx:x.cells.size=n) (h1:∀v∈x.cells.toList,v.oneCell'=true) (hfit:off+n≤cur.size):
 (storeVar ty ⟨b,off,none⟩ x).run P w=.ok () (w.setRow b (cur.toList.take off++x.cells.toList++cur.toList.drop (off+n)).toArray):=by
 have:=run_storeCells_at P b off t x.cells.toList 0 cur w hb (by simpa[hx]using hfit) h1
 simp only[Nat.add_zero,Array.length_toList,hx]at this
 simp[storeVar,run_sizeOf hn,hx,this]
theorem Oq {b:Nat} (hB:B≤b) (hz:∀i,¬Z b i) (cs:Array Value):Later B w Z φ s.ctr (w.setRow b cs) Z φ s.ctr∧Below B w (w.setRow b cs):=by
 have hbel:Below B w (w.setRow b cs):=⟨rfl,rfl,rfl,by simp,fun k hk=>setRow_other w b k cs (by omega)⟩
 refine⟨⟨fun _ _ h=>.inl h,Nat.le_refl _,fun _ _ h=>h,fun b' i h=>?_,fun _ _=>rfl⟩,hbel⟩
 refine setRow_other w b b' cs ?_
 rintro rfl
 exact hz i h
theorem Inv.store (hI:Inv w0 B s Z φ w) {o g es:Nat} {nn cl:Bool} {elems:List AV} (ho:s.σ[o]?=some (.arr g es nn cl elems)) {b e size:Nat} (hφ:φ g=.row b e size)
 {i off:Nat} {y v:AV} {x:Value} (hy:elems[i]?=some y) (hr:Rep w Z φ s.ctr v x) (hs:v.storable=true) (hoff:off+v.cells.length≤es) {cur:Array Value} {t:TypeId} (hcur:w.heap[b]?=some (.cells cur t (0,0))):
 let w':=w.setRow b (cur.toList.take (i*es+off)++x.cells.toList++cur.toList.drop (i*es+off+v.cells.length)).toArray
 Inv w0 B ⟨s.σ.set o (.arr g es nn (cl&&v.closed) (elems.set i (Bg y off v))),s.ctr⟩ Z φ w'∧Later B w Z φ s.ctr w' Z φ s.ctr∧i*es+off+v.cells.length≤cur.size:=by
 intro w'
 have hob:=hI.objs o _ ho
 obtain⟨k1,k2,k3⟩:=hob
 rw[hφ]at k3
 obtain⟨k4,k5,k6,k7,k8,c,t',k9,k10,k11⟩:=k3
 rw[hcur]at k9
 simp only[Option.some.injEq,Obj.cells.injEq,and_true]at k9
 obtain⟨rfl,rfl⟩:=k9
 subst k5
 have hi:i<elems.length:=(List.getElem?_eq_some_iff.1 hy).1
 have hyl:=(k11 i y hy).1
 obtain⟨hxl,hxc⟩:=hr.FI hs
 have hfit:i*e+off+v.cells.length≤cur.size:=by
  have:(i+1)*e≤elems.length*e:=Nat.mul_le_mul_right e hi
  rw[Nat.add_mul]at this
  omega
 obtain⟨hL,hbel⟩:=Oq (w:=w) (φ:=φ) (s:=s) k6 k7 (cur.toList.take (i*e+off)++x.cells.toList++cur.toList.drop (i*e+off+v.cells.length)).toArray
 have Agk:x.cells.toList.length=v.cells.length:=by simp[hxl]
 have look:∀k,(cur.toList.take (i*e+off)++x.cells.toList++cur.toList.drop (i*e+off+v.cells.length)).toArray[k]?=if i*e+off≤k∧k<i*e+off+v.cells.length then x.cells[k-(i*e+off)]? else cur[k]?:=by
  intro k
  have:=F9 cur.toList x.cells.toList (i*e+off) (by simp[Agk];omega) k
  rw[Agk]at this
  simpa using this
 refine⟨hI.set ho hbel hL (fun b' j hz=>by simpa[w']using hI.live b' j hz) (fun o' ob' g' b' e' n' hne ho' hg' hφ'=>?_) ?_ (fun g' b' e' n' hg' hφ'=>?_),hL,hfit⟩
 ·refine⟨setRow_other w b b' _ ?_,fun j h=>h⟩
  rintro rfl
  exact hne (hI.apart o' o ob' _ g' g _ _ _ _ _ ho' ho hg' rfl hφ' hφ)
 ·refine⟨k1,k2,?_⟩
  rw[hφ]
  refine⟨k4,rfl,k6,k7,by simpa using k8,_,t,setRow_heap w b cur _ t _ hcur,?_,?_⟩
  ·simp[Agk];omega
  ·intro i' x' hx'
   by_cases hii:i'=i
   ·subst hii
    rw[List.getElem?_set_self hi]at hx'
    simp only[Option.some.injEq]at hx'
    subst hx'
    refine⟨by rw[Oo (by omega),hyl],fun j c hj=>?_⟩
    rw[Jm (by omega),F9 _ _ _ (by omega)]at hj
    rw[look]
    by_cases hin:off≤j∧j<off+v.cells.length
    ·rw[if_pos hin]at hj
     rw[if_pos (by omega)]
     obtain⟨u,h1,h2,h3⟩:=hxc _ c hj
     refine⟨u,by rw[show i'*e+j-(i'*e+off)=j-off by omega];exact h1,h2.later hL,h3,fun h=>?_⟩
     simp only[Bool.and_eq_true]at h
     exact JU h.2 _ c hj
    ·rw[if_neg hin]at hj
     rw[if_neg (by omega)]
     obtain⟨u,h1,h2,h3,h4⟩:=(k11 i' y hy).2 j c hj
     refine⟨u,h1,h2.later hL,h3,fun h=>?_⟩
     simp only[Bool.and_eq_true]at h
     exact h4 h.1
   ·rw[List.getElem?_set_ne (fun h=>hii h.symm)]at hx'
    obtain⟨hl',hc'⟩:=k11 i' x' hx'
    refine⟨hl',fun j c hj=>?_⟩
    obtain⟨u,h1,h2,h3,h4⟩:=hc' j c hj
    have hj':j<e:=by
     have:=(List.getElem?_eq_some_iff.1 hj).1
     omega
    refine⟨u,?_,h2.later hL,h3,fun h=>?_⟩
    ·rw[look,if_neg ?_]
     ·exact h1
     ·rintro⟨ha,hb⟩
      rcases Nat.lt_or_gt_of_ne hii with hlt|hgt
      ·have:(i'+1)*e≤i*e:=Nat.mul_le_mul_right e hlt
       rw[Nat.add_mul]at this
       omega
      ·have:(i+1)*e≤i'*e:=Nat.mul_le_mul_right e hgt
       rw[Nat.add_mul]at this
       omega
    ·simp only[Bool.and_eq_true]at h
     exact h4 h.1
 ·simp only[Obj.gen,Option.some.injEq]at hg'
  subst hg'
  rw[hφ]at hφ'
  simp only[NQ.row.injEq]at hφ'
  obtain⟨rfl,_⟩:=hφ'
  exact .inr ⟨g,e,size,rfl,hφ⟩
theorem AaR (hI:Inv w0 B s Z φ w) {t:TypeId} {n:Nat} (hn:Ba P t=some n) {a x v:AV} {va vx:Value} (ha:Rep w Z φ s.ctr a va) (hx:Rep w Z φ s.ctr x vx) {C:Aq} {env:Env} {aa ax:AO} (h1:aa.val env=a) (h2:ax.val env=x)
 (hev:Ae C (.store n aa ax) env s=some (.ok v,s')):
 v=.undef∧∃w',(Instr.storeAt t va vx).run P w=.ok () w'∧Inv w0 B s' Z φ w'∧Later B w Z φ s.ctr w' Z φ s'.ctr:=by
 simp only[Ae,h1,h2]at hev
 split at hev
 ·rename_i o g i off
  split at hev
  ·rename_i g' es nn cl elems ho
   split at hev
   ·rename_i hg;subst hg
    split at hev
    ·rename_i y hy
     split at hev
     ·rename_i hc
      simp only[Bool.and_eq_true,beq_iff_eq,decide_eq_true_eq]at hc
      obtain⟨⟨hs,hl⟩,hfit⟩:=hc
      simp only[Option.some.injEq,Prod.mk.injEq,AL.ok.injEq]at hev
      obtain⟨rfl,rfl⟩:=hev
      rw[Aj]at ho hy
      cases ha with
      |ref _ _ _ _ b e size hg hφ=>
       obtain⟨_,_,k3⟩:=hI.objs o _ ho
       rw[hφ]at k3
       obtain⟨_,he,_,_,_,cur,t',hcur,_,_⟩:=k3
       subst he
       obtain⟨hI',hL,hsz⟩:=hI.store (off:=off) ho hφ hy hx hs (by omega) hcur
       refine⟨rfl,_,?_,hI',hL⟩
       have h1c:∀u∈vx.cells.toList,u.oneCell'=true:=by
        intro u hu
        obtain⟨j,hj⟩:=List.mem_iff_getElem?.1 hu
        obtain⟨hxl,hxc⟩:=hx.FI hs
        have hjl:j<x.cells.length:=by
           have:=(List.getElem?_eq_some_iff.1 hj).1
           simp at this;omega
        obtain⟨u',k1,k2,k3⟩:=hxc j _ (List.getElem?_eq_getElem hjl)
        have:u=u':=by
           have hj':vx.cells[j]?=some u:=by simpa using hj
           rw[k1]at hj'
           exact(Option.some.inj hj').symm
        subst this
        exact(k2.oneCell k3).1
       have:=QB (P:=P) (ty:=t) (off:=i*e+off) (x:=vx) hcur hn (by rw[← (hx.FI hs).1,hl]) h1c (by omega)
       simp only[Instr.storeAt,Instr.sureAddr,Sem.run_bind,Sem.run_pure,Result.andThen_ok,this,hl]
     ·cases hev
    ·cases hev
   ·cases hev
  ·cases hev
 ·cases hev
end AI
end Go.Proofs.YtiimoiecghmebaaDoor
namespace Go.Proofs.YtiimoiecghmebaaDoor
namespace AI
open Go.RowKit
variable {P:Program} {B:Nat} {w w' w0:World} {Z Z':Bh} {φ φ':D8} {ctr BX:Nat} {s s':Ag}
def BG (w:World) (Z:Bh) (φ:D8) (ctr:Nat) (cs:List AV) (vs:Array Value):Prop:=
 cs.length=vs.size∧∀(i:Nat) (c:AV),cs[i]?=some c→∃v,vs[i]?=some v∧Rep w Z φ ctr c v∧c.one=true
theorem Rep.RN {a:AV} {v:Value} (r:Rep w Z φ ctr a v) (hs:a.storable=true):BG w Z φ ctr a.cells v.cells:=
 r.FI hs
theorem BG.agg {cs:List AV} {vs:Array Value} (h:BG w Z φ ctr cs vs):Rep w Z φ ctr (.agg cs) (.agg vs):=
 .agg cs vs h.1 (fun i c hi=>by obtain⟨_,_,_,h3⟩:=h.2 i c hi;exact h3) (fun i c hi=>by
  obtain⟨v,h1,h2,_⟩:=h.2 i c hi
  rw[F8 (v:=v) (by simpa using h1)];exact h2)
theorem foldl_set (off:Nat):∀(l:List Value) (n:Nat) (cs:Array Value),off+n+l.length≤cs.size→
 ((l.zipIdx n).foldl (fun cs p=>cs.setIfInBounds (off+p.2) p.1) cs).size=cs.size∧
 ∀k,((l.zipIdx n).foldl (fun cs p=>cs.setIfInBounds (off+p.2) p.1) cs)[k]?=if off+n≤k∧k<off+n+l.length then l[k-(off+n)]? else cs[k]?
 |[],n,cs,h=>⟨rfl,fun k=>by rw[if_neg (by simp)];rfl⟩
 |v::l,n,cs,h=>by
  simp only[List.length_cons]at h
  obtain⟨h1,h2⟩:=foldl_set off l (n+1) (cs.setIfInBounds (off+n) v) (by simp;omega)
  simp only[List.zipIdx_cons,List.foldl_cons]
  refine⟨by rw[h1];simp,fun k=>?_⟩
  rw[h2]
  simp only[List.length_cons]
  by_cases hk:off+(n+1)≤k∧k<off+(n+1)+l.length
  ·rw[if_pos hk,if_pos (by omega),show k-(off+n)=(k-(off+(n+1)))+1 by omega,List.getElem?_cons_succ]
  ·rw[if_neg hk]
   by_cases he:k=off+n
   ·subst he
    rw[if_pos (by omega)]
    simp only[Nat.sub_self,List.getElem?_cons_zero]
    rw[Array.getElem?_setIfInBounds_self_of_lt (by omega)]
   ·rw[if_neg (by omega),Array.getElem?_setIfInBounds_ne (by omega)]
theorem Xo {cs:List AV} {vs:Array Value} (h:BG w Z φ ctr cs vs) {v:AV} {x:Value} (hr:BG w Z φ ctr v.cells x.cells) {off:Nat} (hoff:off+v.cells.length≤cs.length):
 BG w Z φ ctr (cs.take off++v.cells++cs.drop (off+v.cells.length)) (x.cells.zipIdx.foldl (fun cs (c,j)=>cs.setIfInBounds (off+j) c) vs):=by
 have e:(x.cells.zipIdx.foldl (fun cs (c,j)=>cs.setIfInBounds (off+j) c) vs)=((x.cells.toList.zipIdx 0).foldl (fun cs p=>cs.setIfInBounds (off+p.2) p.1) vs):=by
  rw[← Array.foldl_toList]
  congr 1
  simp
 rw[e]
 have hxl:x.cells.toList.length=v.cells.length:=by simp[hr.1]
 obtain⟨h1,h2⟩:=foldl_set off x.cells.toList 0 vs (by rw[hxl,←h.1];omega)
 refine⟨by rw[h1,←h.1];simp;omega,fun i c hi=>?_⟩
 rw[F9 _ _ _ hoff]at hi
 rw[h2,hxl,Nat.add_zero]
 by_cases hin:off≤i∧i<off+v.cells.length
 ·rw[if_pos hin]at hi
  rw[if_pos hin]
  obtain⟨u,k1,k2,k3⟩:=hr.2 _ c hi
  exact⟨u,by simpa using k1,k2,k3⟩
 ·rw[if_neg hin]at hi
  rw[if_neg hin]
  exact h.2 i c hi
def KQ (w:World) (Z:Bh) (φ:D8) (ctr:Nat) (place:Nat→Option (Nat×Nat)):List (Nat×Value)→List (Nat×Nat×AV)→Prop
 |[],[]=>True
 |(i,x)::ps,(off,sz,v)::qs=>place i=some (off,sz)∧Rep w Z φ ctr v x∧KQ w Z φ ctr place ps qs
 |_,_=>False
theorem JV {place:Nat→Option (Nat×Nat)}:∀{ps:List (Nat×Value)} {qs:List (Nat×Nat×AV)} {z out:List AV} {zc:Array Value},KQ w Z φ ctr place ps qs→BG w Z φ ctr z zc→DV z qs=some out→
 ∃Kv,Instr.fill place zc ps=some Kv∧BG w Z φ ctr out Kv
 |[],[],z,out,zc,_,hz,hb=>by
  simp only[DV,Option.some.injEq]at hb
  subst hb
  exact⟨zc,rfl,hz⟩
 |[],_::_,_,_,_,h,_,_=>h.elim
 |_::_,[],_,_,_,h,_,_=>h.elim
 |(i,x)::ps,(off,sz,v)::qs,z,out,zc,h,hz,hb=>by
  obtain⟨h1,h2,h3⟩:=h
  simp only[DV]at hb
  split at hb
  ·rename_i hc
   simp only[Bool.and_eq_true,beq_iff_eq,decide_eq_true_eq]at hc
   obtain⟨⟨hs,hl⟩,hfit⟩:=hc
   subst hl
   have hcr:=h2.RN hs
   have hsp:=Xo hz hcr hfit
   obtain⟨Kv,k1,k2⟩:=JV h3 hsp hb
   refine⟨Kv,?_,k2⟩
   have n1:x.cells.size=v.cells.length:=hcr.1.symm
   have n2:¬(off+v.cells.length>zc.size):=by rw[← hz.1];omega
   simp only[Instr.fill,h1,n1,n2]
   simpa using k1
  ·cases hb
theorem QC {z:List AV} {zv:Value} (h:ofValue zv=some (.agg z)):BG w Z φ ctr z zv.cells:=by
 obtain⟨hr,_,hs⟩:=Du (w:=w) (Z:=Z) (φ:=φ) (ctr:=ctr) h
 exact hr.RN hs
theorem RP {fs:List Field} {env:Env} {a:Act} (hE:Ak w Z φ ctr env a.tmps) {place:Nat→Option (Nat×Nat)} (hp:∀i f n,nth fs i=some f→Ba P f.type=some n→place i=some (f.offset,n)):
 ∀{ps:List (Nat×Operand)} {qs:List (Nat×Nat×AO)},Ns P fs ps=some qs→KQ w Z φ ctr place (ps.map fun(i,x)=>(i,a.eval x)) (JE env qs)
 |[],qs,h=>by
  simp only[Ns,Option.some.injEq]at h
  subst h
  trivial
 |(i,x)::ps,qs,h=>by
  simp only[Ns]at h
  split at h
  ·rename_i f ax r hf hx hr
   split at h
   ·rename_i n hn
    simp only[Option.some.injEq]at h
    subst h
    exact⟨hp i f n hf hn,Aa hE hx,RP hE hp hr⟩
   ·cases h
  ·cases h
theorem Ot {es:Nat} {env:Env} {a:Act} (hE:Ak w Z φ ctr env a.tmps):
 ∀{ps:List (Nat×Operand)} {qs:List (Nat×Nat×AO)},Iy es ps=some qs→KQ w Z φ ctr (fun i=>some (i*es,es)) (ps.map fun(i,x)=>(i,a.eval x)) (JE env qs)
 |[],qs,h=>by
  simp only[Iy,Option.some.injEq]at h
  subst h
  trivial
 |(i,x)::ps,qs,h=>by
  simp only[Iy]at h
  split at h
  ·rename_i ax r hx hr
   simp only[Option.some.injEq]at h
   subst h
   exact⟨rfl,Aa hE hx,Ot hE hr⟩
  ·cases h
theorem Qd:∀(fs:List Field),fs.all (fun f=>(Ba P f.type).isSome)=true→
 ∃places,fs.mapM (fun f=>(P.info? f.type).map fun i=>(f.offset,i.size))=some places∧∀i f n,nth fs i=some f→Ba P f.type=some n→places[i]?=some (f.offset,n)
 |[],_=>⟨[],rfl,fun i f n h=>by simp[nth]at h⟩
 |f::fs,h=>by
  simp only[List.all_cons,Bool.and_eq_true]at h
  obtain⟨places,h1,h2⟩:=Qd fs h.2
  obtain⟨m,hm⟩:=Option.isSome_iff_exists.1 h.1
  obtain⟨i,hi,hn,_⟩:=DN hm
  refine⟨(f.offset,m)::places,by simp[List.mapM_cons,h1,hi,hn],fun k g n hk hg=>?_⟩
  cases k with
  |zero=>
   simp only[nth,Option.some.injEq]at hk
   subst hk
   rw[hm]at hg
   cases hg
   rfl
  |succ k=>exact h2 k g n (by simpa[nth]using hk) hg
theorem AaS {t:TypeId} {n:Nat} {z:List AV} {env:Env} {a:Act} (hE:Ak w Z φ s.ctr env a.tmps) (hz:Et P t=some (n,.agg z)) {parts:Array (Nat×Operand)} {qs:List (Nat×Nat×AO)}
 (hp:(∃ fs:Array Field,P.underlying t=some (.struct fs)∧fs.toList.all (fun f=>(Ba P f.type).isSome)=true∧Ns P fs.toList parts.toList=some qs)∨
   (∃ len e es,P.underlying t=some (.array len e)∧Ba P e=some es∧Iy es parts.toList=some qs)) {C:Aq} {v:AV} (hev:Ae C (.build z qs) env s=some (.ok v,s')):
 ∃x,(Instr.build t (parts.map fun(i,x)=>(i,a.eval x))).run P w=.ok x w∧Rep w Z φ s.ctr v x∧s'=s:=by
 simp only[Ae]at hev
 cases hb:DV z (JE env qs)with
 |none=>simp[hb]at hev
 |some out=>
  simp only[hb,Option.map_some,Option.some.injEq,Prod.mk.injEq,AL.ok.injEq]at hev
  obtain⟨rfl,rfl⟩:=hev
  obtain⟨it,zv,hi,hn,h0,hzv,hov,hl,_⟩:=D5 hz
  have hzc:=QC (w:=w) (Z:=Z) (φ:=φ) (ctr:=s.ctr) hov
  rcases hp with⟨fs,hu,hall,hpt⟩|⟨len,e,es,hu,hes,hpt⟩
  ·obtain⟨places,hm,hpl⟩:=Qd (P:=P) fs.toList hall
   obtain⟨Kv,k1,k2⟩:=JV (RP (P:=P) hE (place:=fun i=>places[i]?) hpl hpt) hzc hb
   refine⟨.agg Kv,run_build w t _ Kv ?_,k2.agg,rfl⟩
   simp only[Program.built,hi,hu,hzv,hm]
   rw[← k1]
   congr 1
   ·funext x;simp
   ·exact Array.toList_map
  ·obtain⟨ie,hie,hse,_⟩:=DN hes
   obtain⟨Kv,k1,k2⟩:=JV (Ot hE hpt) hzc hb
   refine⟨.agg Kv,run_build w t _ Kv ?_,k2.agg,rfl⟩
   simp only[Program.built,hi,hu,hzv,hie,hse]
   rw[← k1]
   congr 1
   exact Array.toList_map
def flat (xs:List AV):List AV:=xs.flatMap AV.cells
theorem flat_length {es:Nat}:∀{xs:List AV},Bq es xs→(flat xs).length=xs.length*es
 |[],_=>by simp[flat]
 |x::xs,h=>by
  have h1:=h x (by simp)
  have h2:=flat_length (xs:=xs) (fun y hy=>h y (by simp[hy]))
  simp only[flat,List.flatMap_cons,List.length_append,List.length_cons]at h2 ⊢
  rw[h1,h2,Nat.add_mul];omega
theorem flat_get {es:Nat}:∀{xs:List AV},Bq es xs→∀{i j:Nat} {x:AV},xs[i]?=some x→j<es→(flat xs)[i*es+j]?=x.cells[j]?
 |[],_,i,j,x,hx,_=>by simp at hx
 |y::ys,h,i,j,x,hx,hj=>by
  have h1:=h y (by simp)
  have h2:Bq es ys:=fun z hz=>h z (by simp[hz])
  simp only[flat,List.flatMap_cons]
  cases i with
  |zero=>
   simp only[List.getElem?_cons_zero,Option.some.injEq]at hx
   subst hx
   rw[Nat.zero_mul,Nat.zero_add,List.getElem?_append_left (by omega)]
  |succ i=>
   have:=flat_get h2 (i:=i) (by simpa using hx) hj
   rw[List.getElem?_append_right (by rw[h1,Nat.add_mul];omega),h1,show(i+1)*es+j-es=i*es+j by rw[Nat.add_mul];omega]
   exact this
theorem BG.holds {es:Nat} {xs:List AV} (hsz:Bq es xs) {c:Array Value} (h:BG w Z φ ctr (flat xs) c) {cl:Bool} (hcl:cl=true→∀x∈xs,x.closed=true):Holds w Z φ ctr c es cl xs:=by
 intro i x hx
 have hm:x∈xs:=List.mem_of_getElem? hx
 refine⟨hsz x hm,fun j y hy=>?_⟩
 have hj:j<es:=by
  have:=(List.getElem?_eq_some_iff.1 hy).1
  rw[hsz x hm]at this;exact this
 obtain⟨v,h1,h2,h3⟩:=h.2 (i*es+j) y (by rw[flat_get hsz hx hj];exact hy)
 exact⟨v,h1,h2,h3,fun k=>JU (hcl k x hm) j y hy⟩
def VL (es:Nat):List (Nat×AV)→List (Nat×Nat×AV)
 |[]=>[]
 |(j,v)::ps=>(j*es,es,v)::VL es ps
theorem Ou (z:AV):∀n i,Bo z n [] i=List.replicate n z
 |0,i=>rfl
 |n+1,i=>by simp[Bo,Ou z n,List.replicate_succ]
theorem PE {es:Nat} {z:AV} (hz:z.cells.length=es):∀(n:Nat) (ps:List (Nat×AV)) (pre:List AV),Bq es pre→Rn es (pre.length+n) ps pre.length=true→
 DV (flat (pre++List.replicate n z)) (VL es ps)=some (flat (pre++Bo z n ps pre.length))∧Bq es (Bo z n ps pre.length)
 |n,[],pre,hpre,hok=>by
  rw[Ou]
  refine⟨rfl,fun x hx=>?_⟩
  rw[List.eq_of_mem_replicate hx];exact hz
 |0,(j,v)::ps,pre,hpre,hok=>by
  simp only[Rn,Bool.and_eq_true,decide_eq_true_eq]at hok
  omega
 |n+1,(j,v)::ps,pre,hpre,hok=>by
  have hok':=hok
  simp only[Rn,Bool.and_eq_true,decide_eq_true_eq,beq_iff_eq]at hok
  obtain⟨⟨⟨⟨h1,h2⟩,h3⟩,h4⟩,h5⟩:=hok
  by_cases hj:pre.length=j
  ·subst hj
   have hb:Nat.beq pre.length pre.length=true:=Nat.beq_refl _
   have hpre':Bq es (pre++[v]):=by
    intro x hx
    rcases List.mem_append.1 hx with h|h
    ·exact hpre x h
    ·simp only[List.mem_singleton]at h;subst h;exact h4
   have ih:=PE hz n ps (pre++[v]) hpre' (by simpa[Nat.add_assoc,Nat.add_comm 1 n]using h5)
   simp only[List.length_append,List.length_singleton,List.append_assoc,List.singleton_append]at ih
   simp only[Bo,hb,cond_true]
   refine⟨?_,fun x hx=>?_⟩
   ·simp only[VL,DV]
    have hfl:(flat pre).length=pre.length*es:=flat_length hpre
    have hlen:(flat (pre++List.replicate (n+1) z)).length=(pre.length+(n+1))*es:=by
     rw[flat_length (es:=es)]
     ·simp
     ·intro x hx
      rcases List.mem_append.1 hx with h|h
      ·exact hpre x h
      ·rw[List.eq_of_mem_replicate h];exact hz
    have hfit:pre.length*es+es≤(flat (pre++List.replicate (n+1) z)).length:=by
     rw[hlen,Nat.add_mul,Nat.add_mul];omega
    rw[if_pos (by simp[h3,h4,hfit])]
    have e:(flat (pre++List.replicate (n+1) z)).take (pre.length*es)++v.cells++(flat (pre++List.replicate (n+1) z)).drop (pre.length*es+es)=flat (pre++v::List.replicate n z):=by
     simp only[flat,List.flatMap_append,List.replicate_succ,List.flatMap_cons]at hfl ⊢
     rw[List.take_left' hfl,List.append_assoc,←List.append_assoc (List.flatMap AV.cells pre) z.cells,List.drop_left' (by simp[hfl,hz])]
    rw[e]
    exact ih.1
   ·rcases List.mem_cons.1 hx with h|h
    ·subst h;exact h4
    ·exact ih.2 x h
  ·have hb:Nat.beq pre.length j=false:=by
    cases h:Nat.beq pre.length j
    ·rfl
    ·exact absurd (Nat.eq_of_beq_eq_true h) hj
   have hpre':Bq es (pre++[z]):=by
    intro x hx
    rcases List.mem_append.1 hx with h|h
    ·exact hpre x h
    ·simp only[List.mem_singleton]at h;subst h;exact hz
   have ih:=PE hz n ((j,v)::ps) (pre++[z]) hpre' (by
    simp only[List.length_append,List.length_singleton,Rn,Bool.and_eq_true,decide_eq_true_eq,beq_iff_eq]
    refine⟨⟨⟨⟨by omega,by omega⟩,h3⟩,h4⟩,?_⟩
    rw[show pre.length+1+n=pre.length+(n+1) by omega]
    exact h5)
   simp only[List.length_append,List.length_singleton,List.append_assoc,List.singleton_append]at ih
   simp only[Bo,hb,cond_false]
   refine⟨?_,fun x hx=>?_⟩
   ·rw[List.replicate_succ];exact ih.1
   ·rcases List.mem_cons.1 hx with h|h
    ·subst h;exact hz
    ·exact ih.2 x h
theorem G7 (z:AV):∀(n:Nat) (ps:List (Nat×AV)) (i:Nat),(Bo z n ps i).length=n
 |0,ps,i=>by simp[Bo]
 |n+1,[],i=>by simp[Bo,G7 z n]
 |n+1,(j,v)::ps,i=>by
  simp only[Bo]
  cases Nat.beq i j<;>simp[G7 z n]
theorem Ea {z:AV} (hz:z.closed=true):∀(n:Nat) (ps:List (Nat×AV)) (i:Nat),Hl ps=true→∀x∈Bo z n ps i,x.closed=true
 |0,ps,i,_,x,hx=>by simp[Bo]at hx
 |n+1,[],i,h,x,hx=>by
  simp only[Bo,List.mem_cons]at hx
  rcases hx with rfl|hx
  ·exact hz
  ·exact Ea hz n [] (i+1) h x hx
 |n+1,(j,v)::ps,i,h,x,hx=>by
  simp only[Bo]at hx
  have h':=h
  simp only[Hl,Bool.and_eq_true]at h'
  cases hb:Nat.beq i j
  ·simp only[hb,cond_false,List.mem_cons]at hx
   rcases hx with rfl|hx
   ·exact hz
   ·exact Ea hz n _ (i+1) h x hx
  ·simp only[hb,cond_true,List.mem_cons]at hx
   rcases hx with rfl|hx
   ·exact h'.1
   ·exact Ea hz n ps (i+1) h'.2 x hx
theorem Ov {es:Nat} {env:Env} {a:Act} (hE:Ak w Z φ ctr env a.tmps):
 ∀{ps:List (Nat×Operand)} {qs:List (Nat×AO)},Jo ps=some qs→KQ w Z φ ctr (fun i=>some (i*es,es)) (ps.map fun(i,x)=>(i,a.eval x)) (VL es (Pn env qs))
 |[],qs,h=>by
  simp only[Jo,Option.some.injEq]at h
  subst h
  trivial
 |(i,x)::ps,qs,h=>by
  simp only[Jo]at h
  split at h
  ·rename_i ax r hx hr
   simp only[Option.some.injEq]at h
   subst h
   exact⟨rfl,Aa hE hx,Ov hE hr⟩
  ·cases h
theorem RQ {z:AV} {zv:Value} (h:ofValue zv=some z) {es:Nat} (hz:z.cells.length=es) (hes:0<es) (m:Nat):
 BG w Z φ ctr (flat (List.replicate m z)) ((Array.range (m*es)).map (zv.cells[· % zv.cells.size]!)):=by
 obtain⟨hr,_,hs⟩:=Du (w:=w) (Z:=Z) (φ:=φ) (ctr:=ctr) h
 have hcr:=hr.RN hs
 have hsz:Bq es (List.replicate m z):=fun x hx=>by rw[List.eq_of_mem_replicate hx];exact hz
 have hl:(flat (List.replicate m z)).length=m*es:=by rw[flat_length hsz];simp
 refine⟨by rw[hl];simp,fun k c hk=>?_⟩
 have hkl:k<m*es:=by rw[← hl];exact(List.getElem?_eq_some_iff.1 hk).1
 have hdm:k=(k / es)*es+k % es:=by rw[Nat.mul_comm];exact(Nat.div_add_mod k es).symm
 have hmod:k % es<es:=Nat.mod_lt _ hes
 have hdiv:k / es<m:=(Nat.div_lt_iff_lt_mul hes).2 hkl
 have hg:=flat_get hsz (i:=k / es) (j:=k % es) (x:=z) (by simp[hdiv]) hmod
 rw[← hdm]at hg
 rw[hg]at hk
 obtain⟨v,h1,h2,h3⟩:=hcr.2 _ c hk
 refine⟨v,?_,h2,h3⟩
 have hzs:zv.cells.size=es:=by rw[← hcr.1,hz]
 simp only[Array.getElem?_map,Array.getElem?_range,hkl,if_true,Option.map_some,Option.some.injEq,hzs]
 have hlt:k % es<zv.cells.size:=by omega
 rw[getElem!_pos zv.cells _ hlt]
 rw[Array.getElem?_eq_getElem hlt]at h1
 exact Option.some.inj h1
end AI
end Go.Proofs.YtiimoiecghmebaaDoor
namespace Go.Proofs.YtiimoiecghmebaaDoor
namespace AI
open Go.RowKit
variable {P:Program} {B:Nat} {w w' w0:World} {Z Z':Bh} {φ φ':D8} {ctr BX:Nat} {s s':Ag}
theorem RS (hI:Inv w0 B s Z φ w) {es:Nat} (hes:0<es) {C:Aq} {env:Env} {v:AV} (hev:Ae C (.Jb es) env s=some (.ok v,s')):
 ∃φ',Inv w0 B s' Z φ' w∧Rep w Z φ' s'.ctr v (.slice none 0 0)∧Later B w Z φ s.ctr w Z φ' s'.ctr:=by
 simp only[Ae,Option.some.injEq,Prod.mk.injEq,AL.ok.injEq]at hev
 obtain⟨rfl,rfl⟩:=hev
 have hbel:Below w.heap.size w w:=Below.refl _ _
 have hL:Later B w Z φ s.ctr w Z (Bd φ s.ctr .nil) (s.ctr+1):=
  EC hI hbel (fun _ _ h=>h) (fun _ _ h=>.inl h) (fun g hg=>ED φ _ hg) (by omega)
 refine⟨Bd φ s.ctr .nil,hI.push hbel hL (fun _ _ h=>.inl h) (fun b i h=>hI.live b i h) ⟨by omega,hes,?_⟩ rfl (fun b e n h=>?_),?_,hL⟩
 ·rw[Af];exact⟨rfl,rfl⟩
 ·rw[Af]at h;cases h
 ·exact .BP _ _ (by simp[push]) (Af _ _ _)
theorem YN (hI:Inv w0 B s Z φ w) {t:TypeId} {es off e2:Nat} {cs:List AV} {v:AV} (hz:Et P t=some (es,.agg cs)) {C:Aq} {env:Env} (hev:Ae C (.JD off e2 es cs) env s=some (.ok v,s')) (old:Value):
 Qc w0 B w Z φ s.ctr s' v ((Instr.alloc t true old).run P w):=by
 simp only[Ae]at hev
 split at hev
 case h_2=>cases hev
 rename_i hoff
 split at hev
 case isFalse=>cases hev
 rename_i he2
 simp only[Option.some.injEq,Prod.mk.injEq,AL.ok.injEq]at hev
 obtain⟨rfl,rfl⟩:=hev
 obtain⟨i,zv,hi,hn,h0,hzv,hov,hl,_⟩:=D5 hz
 obtain⟨φ1,k1,k2,k3⟩:=RS (C:=C) (env:=env) (es:=e2) hI he2 rfl
 obtain⟨hr,_,hs⟩:=Du (w:=w) (Z:=Z) (φ:=φ1) (ctr:=s.ctr+1) hov
 have hr':Rep w Z φ1 (s.ctr+1) (.agg (cs.set off (.own s.σ.length s.ctr 0 0))) zv:=by
  rw[Aj]at hoff
  cases hr with
  |agg _ vs hlen ho hr=>
   refine .agg _ _ (by rw[List.length_set];exact hlen) (fun i c hi=>?_) (fun i c hi=>?_)
   ·rcases Nat.decEq off i with h|h
    ·rw[List.getElem?_set_ne h]at hi;exact ho i c hi
    ·subst h
     have hlt:=(List.getElem?_eq_some_iff.1 hoff).1
     rw[List.getElem?_set_self hlt]at hi
     cases hi;rfl
   ·rcases Nat.decEq off i with h|h
    ·rw[List.getElem?_set_ne h]at hi;exact hr i c hi
    ·subst h
     have hlt:=(List.getElem?_eq_some_iff.1 hoff).1
     rw[List.getElem?_set_self hlt]at hi
     cases hi
     have h3:=hr off _ hoff
     generalize vs.getD off undef=x at h3 ⊢
     cases h3
     exact k2
 obtain⟨w',φ',h1,h2,h3,h4⟩:=Nr (P:=P) k1 t h0 hr' rfl (by simpa[AV.cells]using hl)
 refine⟨.pointer (some ⟨w.heap.size,0,none⟩),w',Z,φ',?_,h2,?_,k3.trans h4⟩
 ·simp[Instr.alloc,C9 hi hzv,h1]
 ·simpa[push]using h3
theorem JW (hI:Inv w0 B s Z φ w) (hbel:Below w.heap.size w w') {c:Array Value} {t:TypeId} {b:Nat} (hb:w.heap.size≤b) (hw:w'.heap[b]?=some (.cells c t (0,0))) {es:Nat} {cl:Bool} {elems:List AV} (hes:0<es)
 (hH:Holds w Z φ s.ctr c es cl elems) {cap:Nat} (hcap:cap*es=c.size) (hlen:elems.length≤cap) (hm:cap≤maxLen):
 ∃φ',Inv w0 B (push s (.arr s.ctr es true cl elems)) Z φ' w'∧Rep w' Z φ' (s.ctr+1) (.own s.σ.length s.ctr 0 elems.length) (.slice (some ⟨b,0,none⟩) elems.length cap)∧Later B w Z φ s.ctr w' Z φ' (s.ctr+1):=by
 obtain⟨h1,h2⟩:=hI.newRow hbel hb hw hes (by rw[← hcap];exact Nat.mul_le_mul_right es hlen) hH
 refine⟨_,h1,.own _ _ _ _ b es c.size cap _ (by omega) (Af _ _ _) hlen (fun _=>⟨by simp,by simpa using hcap,hm⟩) rfl,h2⟩
theorem AaT (hI:Inv w0 B s Z φ w) (hbel:Below w.heap.size w w') {c:Array Value} {t:TypeId} {b:Nat} (hb:w.heap.size≤b) (hw:w'.heap[b]?=some (.cells c t (0,0))) {es:Nat} {elems:List AV} (hes:0<es)
 (hH:Holds w Z φ s.ctr c es true elems) {cap:Nat} (hlen:elems.length≤cap):
 ∃Z',Inv w0 B s Z' φ w'∧Rep w' Z' φ s.ctr (.sl true elems) (.slice (some ⟨b,0,none⟩) elems.length cap)∧Later B w Z φ s.ctr w' Z' φ s.ctr:=by
 let Z':Bh:=fun b' i=>Z b' i∨b'=b
 have hblt:b<w'.heap.size:=(Array.getElem?_eq_some_iff.1 hw).1
 obtain⟨h1,h2⟩:=hI.grow (Z':=Z') hbel (fun _ _ h=>.inl h) (fun b' i h=>h.imp id fun e=>by omega) (fun b' i h=>h.elim (fun h=>Nat.lt_of_lt_of_le (hI.live b' i h) hbel.size) fun e=>by omega)
 refine⟨Z',h1,?_,h2⟩
 let f:Nat→Nat→Value:=fun i j=>(c[i*es+j]?).getD Go.undef
 refine .sl _ _ b 0 cap es f rfl hlen hes (fun i x hx=>(hH i x hx).1) (fun i x j y hx hj=>?_) (fun i x j y hx hj=>?_)
 ·obtain⟨v,k1,k2,k3,k4⟩:=(hH i x hx).2 j y hj
  refine⟨.inr rfl,?_,k4 rfl,k3⟩
  simp[World.cell?,hw,f,k1]
 ·obtain⟨v,k1,k2,k3,k4⟩:=(hH i x hx).2 j y hj
  have:f i j=v:=by simp[f,k1]
  rw[this]
  exact k2.later h2
theorem Aem (hI:Inv w0 B s Z φ w) {t e:TypeId} (hu:P.underlying t=some (.slice e)) {es len:Nat} {z:AV} (hz:Et P e=some (es,z)) (hlen:len*es≤16777216) {env:Env} {a:Act} (hE:Ak w Z φ s.ctr env a.tmps)
 {parts:Array (Nat×Operand)} {ps:List (Nat×AO)} (hp:Jo parts.toList=some ps) {own:Bool} {C:Aq} {v:AV} (hev:Ae C (.lit own es z len ps) env s=some (.ok v,s')):
 Qc w0 B w Z φ s.ctr s' v ((Instr.buildSlice t len (parts.map fun(i,x)=>(i,a.eval x))).run P w):=by
 obtain⟨ie,zv,hi,hn,h0,hzv,hov,hl,hc⟩:=D5 hz
 simp only[Ae]at hev
 split at hev
 ·rename_i hok
  have hcl0:z.closed=true:=(Du (w:=w) (Z:=Z) (φ:=φ) (ctr:=s.ctr) hov).2.1
  obtain⟨hb,hsz⟩:=PE hl len (Pn env ps) [] (by intro x hx;simp at hx) (by simpa using hok)
  simp only[List.nil_append,List.length_nil]at hb hsz
  obtain⟨Kv,k1,k2⟩:=JV (Ov (es:=es) hE hp) (RQ (w:=w) (Z:=Z) (φ:=φ) (ctr:=s.ctr) hov hl h0 len) hb
  have Agl:(Bo z len (Pn env ps) 0).length=len:=G7 _ _ _ _
  have hcs:Kv.size=len*es:=by rw[← k2.1,flat_length hsz,Agl]
  have run:(Instr.buildSlice t len (parts.map fun(i,x)=>(i,a.eval x))).run P w=.ok (.slice (some ⟨w.heap.size,0,none⟩) len len) (w.alloc (.cells Kv e)):=by
   have hnl:¬(16777216<len*es):=by omega
   by_cases hle:len*es=0
   ·have hl0:len=0:=by
     rcases Nat.mul_eq_zero.1 hle with h|h
     ·exact h
     ·omega
    subst hl0
    have k1':Instr.fill (fun i=>some (i*es,es)) (Array.map (fun _=>(default:Value)) (Array.range 0)) (parts.toList.map fun x=>(x.1,a.eval x.2))=some Kv:=by
     rw[← k1]
     congr 1
     simp
    simp only[Instr.buildSlice,Sem.run_bind,run_underlying hu,Result.andThen_ok,run_sizeOf hc]
    simp[k1',Go.newRow]
   ·simp only[Instr.buildSlice,Sem.run_bind,run_underlying hu,Result.andThen_ok,run_sizeOf hc]
    have k1':Instr.fill (fun i=>some (i*es,es)) ((Array.range (len*es)).map (zv.cells[· % zv.cells.size]!)) (parts.toList.map fun x=>(x.1,a.eval x.2))=some Kv:=k1
    simp[hnl,hle,C9 hi hzv,k1',Go.newRow]
  split at hev
  ·simp only[Option.some.injEq,Prod.mk.injEq,AL.ok.injEq]at hev
   obtain⟨rfl,rfl⟩:=hev
   obtain⟨φ',h1,h2,h3⟩:=JW hI (Dv w _) (Nat.le_refl _) (heap_alloc_new w (.cells Kv e)) h0 (k2.holds (cl:=Hl (Pn env ps)) hsz (fun h=>Ea hcl0 _ _ _ h)) (cap:=len) hcs.symm (by omega) (by unfold maxLen;have:=Nat.le_mul_of_pos_right len h0;omega)
   rw[Agl]at h2
   exact⟨_,_,Z,φ',run,h1,h2,h3⟩
  ·split at hev
   ·rename_i hl0
    subst hl0
    simp only[Option.some.injEq,Prod.mk.injEq,AL.ok.injEq]at hev
    obtain⟨rfl,rfl⟩:=hev
    obtain⟨h1,h2⟩:=hI.grow (Z':=Z) (Dv w (.cells Kv e)) (fun _ _ h=>h) (fun _ _ h=>.inl h) (fun b i h=>by have:=hI.live b i h;simp;omega)
    exact⟨_,_,Z,φ,run,h1,.zc _,h2⟩
   ·split at hev
    ·rename_i Akv
     simp only[Option.some.injEq,Prod.mk.injEq,AL.ok.injEq]at hev
     obtain⟨rfl,rfl⟩:=hev
     obtain⟨Z',h1,h2,h3⟩:=AaT hI (Dv w _) (Nat.le_refl _) (heap_alloc_new w (.cells Kv e)) h0 (k2.holds (cl:=true) hsz (fun _=>Ea hcl0 _ _ _ Akv)) (cap:=len) (by omega)
     rw[Agl]at h2
     exact⟨_,_,Z',φ,run,h1,h2,h3⟩
    ·cases hev
 ·cases hev
theorem Xp (hI:Inv w0 B s Z φ w) {t e:TypeId} (hu:P.underlying t=some (.slice e)) {es bytes:Nat} {z:AV} (hz:Et P e=some (es,z)) {ie:TypeInfo} (hie:P.info? e=some ie) (hby:ie.bytes=bytes) (Aen:0<bytes) {l c:AV} {vl vc:Value} (hl:Rep w Z φ s.ctr l vl) (hc:Rep w Z φ s.ctr c vc)
 {env:Env} {al ac:AO} (h1:al.val env=l) (h2:ac.val env=c) {C:Aq} {v:AV} (hev:Ae C (.Hg es bytes z al ac) env s=some (.ok v,s')):
 Qc w0 B w Z φ s.ctr s' v ((Instr.makeSlice t vl vc).run P w):=by
 obtain⟨ie',zv,hi,hn,h0,hzv,hov,hzl,hcT⟩:=D5 hz
 rw[hie]at hi
 cases hi
 simp only[Ae,h1,h2]at hev
 split at hev
 ·rename_i k n k' m
  split at hev
  ·rename_i hcond
   obtain⟨h3,h4,h5⟩:=hcond
   simp only[Option.some.injEq,Prod.mk.injEq,AL.ok.injEq]at hev
   obtain⟨rfl,rfl⟩:=hev
   cases hl;cases hc
   unfold roomy at h5
   have hm:m.toNat≤2 ^ 47:=Nat.le_trans (Nat.le_mul_of_pos_right _ Aen) h5
   have hmb:(ie.bytes:Int)*m≤281474976710656:=by
        have:((m.toNat*bytes:Nat):Int)≤2 ^ 47:=by exact_mod_cast h5
        rw[Int.natCast_mul,Int.toNat_of_nonneg (by omega),Int.mul_comm]at this
        rw[hby];omega
   have run:=run_make (P:=P) w t e ie zv hu hie hzv k k' n m h3 h4 hmb (by omega)
   have hsz:Bq es (List.replicate m.toNat z):=fun x hx=>by rw[List.eq_of_mem_replicate hx];exact hzl
   have hH:=(RQ (w:=w) (Z:=Z) (φ:=φ) (ctr:=s.ctr) hov hzl h0 m.toNat).holds (cl:=z.closed) hsz (fun h x hx=>by rw[List.eq_of_mem_replicate hx];exact h)
   have hH':Holds w Z φ s.ctr (madeCells zv.cells (m.toNat*ie.size)) es z.closed (List.replicate n.toNat z):=by
        intro i x hx
        have hin:i<n.toNat:=by
         have:=(List.getElem?_eq_some_iff.1 hx).1
         simpa using this
        refine hn▸hH i x ?_
        rw[List.getElem?_replicate,if_pos (by omega)]
        rw[List.getElem?_replicate,if_pos hin]at hx
        exact hx
   have hlen:(List.replicate n.toNat z).length=n.toNat:=List.length_replicate
   obtain⟨φ',k1,k2,k3⟩:=JW hI (Dv w _) (Nat.le_refl _) (heap_alloc_new w (.cells (madeCells zv.cells (m.toNat*ie.size)) e)) h0 hH' (cap:=m.toNat) (by rw[size_madeCells,hn]) (by rw[hlen];omega) (by unfold maxLen;omega)
   rw[hlen]at k2
   exact⟨_,_,Z,φ',run,k1,k2,k3⟩
  ·cases hev
 ·cases hev
end AI
end Go.Proofs.YtiimoiecghmebaaDoor
namespace Go.Proofs.YtiimoiecghmebaaDoor
namespace AI
open Go.RowKit
variable {P:Program} {B:Nat} {w w' w0:World} {Z Z':Bh} {φ φ':D8} {ctr BX:Nat} {s s':Ag}
def Acn (w:World) (Z:Bh) (φ:D8) (ctr:Nat) (es:Nat) (ys:List AV) (b off:Nat):Prop:=
 ∀(i:Nat) (x:AV),ys[i]?=some x→At w Z φ ctr x.cells b (off+i*es)
theorem Acn.news {es:Nat} (hes:0<es) {ys:List AV} {b off:Nat} (h:Acn w Z φ ctr es ys b off) (hsz:Bq es ys):
 ∃news:List Value,news.length=ys.length*es∧(∀ (j:Nat) (u:Value),news[j]?=some u→w.cell? ((⟨b,off,none⟩:Addr).add j)=some u)∧BG w Z φ ctr (flat ys) news.toArray:=by
 have hl:=flat_length hsz
 have key:∀k,k<ys.length*es→∃c v,(flat ys)[k]?=some c∧w.cell? ⟨b,off+k,none⟩=some v∧Rep w Z φ ctr c v∧c.one=true:=by
  intro k hk
  have hdm:k=(k / es)*es+k % es:=by rw[Nat.mul_comm];exact(Nat.div_add_mod k es).symm
  have hmod:k % es<es:=Nat.mod_lt _ hes
  have hdiv:k / es<ys.length:=(Nat.div_lt_iff_lt_mul hes).2 hk
  have hx:=List.getElem?_eq_getElem hdiv
  have hj:k % es<ys[k / es].cells.length:=by rw[hsz _ (List.getElem_mem hdiv)];exact hmod
  have hg:=flat_get hsz hx hmod
  rw[← hdm,List.getElem?_eq_getElem hj]at hg
  obtain⟨v,h1,h2,h3⟩:=h _ _ hx _ _ (List.getElem?_eq_getElem hj)
  refine⟨_,v,hg,?_,h2,h3⟩
  rw[show off+k=off+k / es*es+k % es by omega]
  exact h1
 let f:Nat→Value:=fun k=>(w.cell? ⟨b,off+k,none⟩).getD Go.undef
 have hf:∀k,k<ys.length*es→w.cell? ⟨b,off+k,none⟩=some (f k):=by
  intro k hk
  obtain⟨_,v,_,h2,_⟩:=key k hk
  simp[f,h2]
 refine⟨(List.range (ys.length*es)).map f,by simp,fun j u hu=>?_,by simp[hl],fun i c hi=>?_⟩
 ·rw[List.getElem?_map]at hu
  have hj:j<ys.length*es:=by
   cases h:(List.range (ys.length*es))[j]? with
   |none=>simp[h]at hu
   |some q=>have:=(List.getElem?_eq_some_iff.1 h).1;simpa using this
  rw[List.getElem?_range hj]at hu
  simp only[Option.map_some,Option.some.injEq]at hu
  rw[Addr.add_lit,←hu]
  exact hf j hj
 ·have hi':i<ys.length*es:=by
   have:=(List.getElem?_eq_some_iff.1 hi).1
   rw[hl]at this;exact this
  obtain⟨c',v,h1,h2,h3,h4⟩:=key i hi'
  rw[h1]at hi
  cases hi
  refine⟨v,?_,h3,h4⟩
  have:f i=v:=by simp[f,h2]
  simp[hi',this]
theorem Bq.sub {es:Nat} {xs:List AV} (h:Bq es xs) (l n:Nat):Bq es (sub xs l n):=fun x hx=>h x (List.mem_of_mem_drop (List.mem_of_mem_take hx))
theorem KR (hI:Inv w0 B s Z φ w) {es:Nat} {x:AV} {vx:Value} (hx:Rep w Z φ s.ctr x vx) {ys:List AV} {cl:Bool} (h:elemsOf s es x=some (ys,cl)) (hsz:Bq es ys):
 ∃base m c,vx=.slice base m c∧m=ys.length∧(base=none→ys=[])∧(∀ a,base=some a→ys≠[]→a.spot=none∧Acn w Z φ s.ctr es ys a.block a.off)∧(cl=true→∀y∈ys,y.closed=true):=by
 unfold elemsOf at h
 split at h
 ·rename_i nn xs
  simp only[Option.some.injEq,Prod.mk.injEq]at h
  obtain⟨rfl,rfl⟩:=h
  cases hx with
  |EI=>exact⟨none,0,0,rfl,rfl,fun _=>rfl,fun a ha=>(by cases ha),fun _ y hy=>(by simp at hy)⟩
  |sl0 a0=>exact⟨some a0,0,0,rfl,rfl,fun h=>(by cases h),fun a ha=>(by cases ha;exact fun h=>(h rfl).elim),fun _ y hy=>(by simp at hy)⟩
  |sl _ n b off cap es' f hn hcap hes' hsz' hc hr=>
   refine⟨_,_,_,rfl,hn,fun h=>(by cases h),fun a ha=>?_,fun _ y hy=>?_⟩
   ·cases ha
    refine fun hne=>⟨rfl,fun i x hx j c hj=>?_⟩
    have he:es'=es:=by
     rw[← hsz' _ _ hx]
     exact hsz x (List.mem_of_getElem? hx)
    subst he
    exact⟨f i j,(hc i x j c hx hj).2.1,hr i x j c hx hj,(hc i x j c hx hj).2.2.2⟩
   ·obtain⟨i,hi⟩:=List.mem_iff_getElem?.1 hy
    have hone:∀(j:Nat) (c:AV),y.cells[j]?=some c→c.closed=true:=fun j c hj=>(hc i y j c hi hj).2.2.1
    cases y with
    |agg cs=>simp only[AV.closed];exact Dj hone
    |_=>exact hone 0 _ rfl
 ·simp only[Option.some.injEq,Prod.mk.injEq]at h
  obtain⟨rfl,rfl⟩:=h
  cases hx with
  |zc a0=>exact⟨_,_,_,rfl,rfl,fun h=>(by cases h),fun a ha=>(by cases ha;exact fun h=>(h rfl).elim),fun _ y hy=>(by simp at hy)⟩
 ·rename_i o g off len
  split at h
  ·rename_i g' es' nn cl' elems ho
   split at h
   ·rename_i hc
    obtain⟨rfl,rfl,hfit⟩:=hc
    simp only[Option.some.injEq,Prod.mk.injEq]at h
    obtain⟨rfl,rfl⟩:=h
    rw[Aj]at ho
    have hlen:(sub elems off len).length=len:=Iw hfit
    have hob:=hI.objs o _ ho
    have hcl:cl'=true→∀y∈sub elems off len,y.closed=true:=by
     intro hcl y hy
     have hy':y∈elems:=List.mem_of_mem_drop (List.mem_of_mem_take hy)
     obtain⟨i,hi⟩:=List.mem_iff_getElem?.1 hy'
     obtain⟨_,_,h3⟩:=hob
     cases hφ:φ g with
     |nil=>rw[hφ]at h3;rw[h3.2]at hi;simp at hi
     |zc=>rw[hφ]at h3;rw[h3.2]at hi;simp at hi
     |pend=>rw[hφ]at h3;exact h3.elim
     |row b e n=>
      rw[hφ]at h3
      obtain⟨_,_,_,_,_,c,t,_,_,hH⟩:=h3
      have hone:∀(j:Nat) (c:AV),y.cells[j]?=some c→c.closed=true:=by
       intro j c hj
       obtain⟨_,_,_,_,k⟩:=(hH i y hi).2 j c hj
       exact k hcl
      cases y with
      |agg cs=>simp only[AV.closed];exact Dj hone
      |_=>exact hone 0 _ rfl
    cases hx with
    |own _ _ _ _ b e size cap a hg hφ hcap ha hs=>
     refine⟨_,_,_,rfl,hlen.symm,fun h=>(by cases h),fun a' ha'=>?_,hcl⟩
     cases ha'
     refine fun hne=>⟨hs,?_⟩
     have hl0:0<len:=by
      rcases Nat.eq_zero_or_pos len with h|h
      ·exact(hne (List.eq_nil_of_length_eq_zero (hlen.trans h))).elim
      ·exact h
     obtain⟨rfl,_⟩:=ha (.inl hl0)
     intro i x hx
     obtain⟨hx',_⟩:=getElem_sub hx
     obtain⟨he,hat⟩:=hob.at hφ hx'
     subst he
     rw[show off*e+i*e=(off+i)*e by rw[Nat.add_mul]]
     exact hat
    |BP _ _ hg hφ=>exact⟨none,0,0,rfl,hlen.symm,fun _=>List.eq_nil_of_length_eq_zero hlen,fun a ha=>(by cases ha),hcl⟩
    |Dz _ _ a0 hg hφ=>exact⟨_,_,_,rfl,hlen.symm,fun h=>(by cases h),fun a ha=>(by cases ha;exact fun h=>(h (List.eq_nil_of_length_eq_zero hlen)).elim),hcl⟩
   ·cases h
  ·cases h
 ·cases h
theorem VN {cs:List AV} {news:List Value} (h:BG w Z φ ctr cs news.toArray):∀u∈news,u.oneCell'=true:=by
 intro u hu
 obtain⟨j,hj⟩:=List.mem_iff_getElem?.1 hu
 have hjl:j<cs.length:=by
  have:=(List.getElem?_eq_some_iff.1 hj).1
  have h1:=h.1
  simp at h1;omega
 obtain⟨v,k1,k2,k3⟩:=h.2 j _ (List.getElem?_eq_getElem hjl)
 have:u=v:=by
  have:news[j]?=some v:=by simpa using k1
  rw[hj]at this;exact Option.some.inj this
 subst this
 exact(k2.oneCell k3).1
theorem Eb {t ty e:TypeId} {i:TypeInfo} (ht:P.underlying t=some (.slice e)) (hi:P.info? e=some i) (base:Option Addr) (sLen sCap:Nat) (h:sLen≤sCap) (b':Option Addr) (c:Nat):
 (Builtin.append_ #[t,t] ty #[.slice base sLen sCap,.slice b' 0 c]).run P w=.ok (.slice base sLen sCap) w:=by
 cases base<;>cases b'<;>simp[Builtin.append_,run_underlying ht,sizeOf,typeInfo,hi,Builtin.lenOf,h,Builtin.firstCells,Go.loadCells,loadCellsFrom,storeCells]
theorem run_append_room' {t ty e:TypeId} {i:TypeInfo} (ht:P.underlying t=some (.slice e)) (hi:P.info? e=some i)
 (g sLen sCap:Nat) (cur:Array Value) (t':TypeId) (hg:w.heap[g]?=some (.cells cur t' (0,0)))
 (a:Addr) (m c:Nat) (news:List Value) (hl:news.length=m*i.size) (hnews:∀(j:Nat) (u:Value),news[j]?=some u→w.cell? (a.add j)=some u) (h1:∀u∈news,u.oneCell'=true)
 (hroom:sLen+m≤sCap) (hfit:sLen*i.size+news.length≤cur.size):
 (Builtin.append_ #[t,t] ty #[.slice (some ⟨g,0,none⟩) sLen sCap,.slice (some a) m c]).run P w=
   .ok (.slice (some ⟨g,0,none⟩) (sLen+m) sCap) (w.setRow g (cur.toList.take (sLen*i.size)++news++cur.toList.drop (sLen*i.size+news.length)).toArray):=by
 have hf:=run_firstCells_some (P:=P) w i.size m a m c news hl hnews
 have hst:=run_storeCells_at P g (sLen*i.size) t' news 0 cur w hg (by simpa using hfit) h1
 simp only[Nat.add_zero]at hst
 simp[Builtin.append_,run_underlying ht,sizeOf,typeInfo,hi,Builtin.lenOf,hroom,hf,Addr.add_lit,hst]
theorem Qe (xs ys:List AV):flat (xs++ys)=flat xs++flat ys:=by simp[flat]
theorem BG.append {cs ds:List AV} {xs ys:List Value} (h:BG w Z φ ctr cs xs.toArray) (k:BG w Z φ ctr ds ys.toArray):BG w Z φ ctr (cs++ds) (xs++ys).toArray:=by
 have h1:cs.length=xs.length:=by simpa using h.1
 have k1:ds.length=ys.length:=by simpa using k.1
 refine⟨by simp[h1,k1],fun i c hi=>?_⟩
 by_cases hlt:i<cs.length
 ·rw[List.getElem?_append_left hlt]at hi
  obtain⟨v,a,b⟩:=h.2 i c hi
  refine⟨v,?_,b⟩
  have:xs[i]?=some v:=by simpa using a
  simp[List.getElem?_append_left (show i<xs.length by omega),this]
 ·rw[List.getElem?_append_right (by omega)]at hi
  obtain⟨v,a,b⟩:=k.2 _ c hi
  refine⟨v,?_,b⟩
  have:ys[i-xs.length]?=some v:=by rw[← h1];simpa using a
  simp[List.getElem?_append_right (show xs.length≤i by omega),this]
theorem Holds.extend {es:Nat} {cl:Bool} {xs:List AV} {cs:List Value} {c:Array Value} (h:Holds w Z φ ctr cs.toArray es cl xs) (hc:∀k,k<cs.length→c[k]?=cs[k]?):Holds w Z φ ctr c es cl xs:=by
 intro i x hx
 obtain⟨h1,h2⟩:=h i x hx
 refine⟨h1,fun j y hy=>?_⟩
 obtain⟨v,a,b⟩:=h2 j y hy
 have a':cs[i*es+j]?=some v:=by simpa using a
 exact⟨v,by rw[hc _ (List.getElem?_eq_some_iff.1 a').1];exact a',b⟩
theorem Holds.AaU {c:Array Value} {es:Nat} {cl:Bool} {elems:List AV} (hes:0<es) (h:Holds w Z φ ctr c es cl elems) {n:Nat} (hn:n≤elems.length) (hfit:elems.length*es≤c.size):
 BG w Z φ ctr (flat (elems.take n)) (c.toList.take (n*es)).toArray∧Bq es (elems.take n):=by
 have hsz:Bq es (elems.take n):=by
  intro x hx
  obtain⟨i,hi⟩:=List.mem_iff_getElem?.1 (List.mem_of_mem_take hx)
  exact(h i x hi).1
 have hl:=flat_length hsz
 have hnl:(elems.take n).length=n:=by simp;omega
 have hne:n*es≤c.size:=Nat.le_trans (Nat.mul_le_mul_right es hn) hfit
 refine⟨⟨by rw[hl,hnl];simp;omega,fun k y hk=>?_⟩,hsz⟩
 have hk':k<n*es:=by
  have:=(List.getElem?_eq_some_iff.1 hk).1
  rw[hl,hnl]at this;exact this
 have hdm:k=(k / es)*es+k % es:=by rw[Nat.mul_comm];exact(Nat.div_add_mod k es).symm
 have hmod:k % es<es:=Nat.mod_lt _ hes
 have hdiv:k / es<n:=(Nat.div_lt_iff_lt_mul hes).2 hk'
 have hx:(elems.take n)[k / es]?=some elems[k / es]:=by
  rw[List.getElem?_take_of_lt hdiv];exact List.getElem?_eq_getElem (by omega)
 have hg:=flat_get hsz hx hmod
 rw[← hdm]at hg
 rw[hg]at hk
 obtain⟨v,k1,k2,k3,_⟩:=(h _ _ (List.getElem?_eq_getElem (show k / es<elems.length by omega))).2 _ y hk
 refine⟨v,?_,k2,k3⟩
 rw[← hdm]at k1
 have k1':c.toList[k]?=some v:=by simpa using k1
 simp[List.getElem?_take_of_lt hk',k1]
theorem Inv.cut (hI:Inv w0 B s Z φ w) {o g es:Nat} {nn cl:Bool} {elems:List AV} (ho:s.σ[o]?=some (.arr g es nn cl elems)) {b e size:Nat} (hφ:φ g=.row b e size) {k:Nat}
 {cur cs':Array Value} {t:TypeId} (hcur:w.heap[b]?=some (.cells cur t (0,0))) (hsz:cs'.size=cur.size) (hsame:∀i,i<k*e→cs'[i]?=cur[i]?):
 Inv w0 B ⟨s.σ.set o (.arr g es nn cl (elems.take k)),s.ctr⟩ Z φ (w.setRow b cs')∧Later B w Z φ s.ctr (w.setRow b cs') Z φ s.ctr:=by
 have hob:=hI.objs o _ ho
 obtain⟨k1,k2,k3⟩:=hob
 rw[hφ]at k3
 obtain⟨k4,k5,k6,k7,k8,c,t',k9,k10,k11⟩:=k3
 rw[hcur]at k9
 simp only[Option.some.injEq,Obj.cells.injEq,and_true]at k9
 obtain⟨rfl,rfl⟩:=k9
 subst k5
 obtain⟨hL,hbel⟩:=Oq (w:=w) (φ:=φ) (s:=s) k6 k7 cs'
 refine⟨hI.set ho hbel hL (fun b' j hz=>by simpa using hI.live b' j hz) (fun o' ob' g' b' e' n' hne ho' hg' hφ'=>?_) ?_ (fun g' b' e' n' hg' hφ'=>?_),hL⟩
 ·refine⟨setRow_other w b b' _ ?_,fun j h=>h⟩
  rintro rfl
  exact hne (hI.apart o' o ob' _ g' g _ _ _ _ _ ho' ho hg' rfl hφ' hφ)
 ·refine⟨k1,k2,?_⟩
  rw[hφ]
  refine⟨k4,rfl,k6,k7,?_,_,t,setRow_heap w b cur _ t _ hcur,?_,?_⟩
  ·refine Nat.le_trans (Nat.mul_le_mul_right _ ?_) k8
   rw[List.length_take];omega
  ·rw[hsz];exact k10
  ·intro i' x' hx'
   rw[List.getElem?_take]at hx'
   split at hx'
   ·rename_i hik
    obtain⟨hl',hc'⟩:=k11 i' x' hx'
    refine⟨hl',fun j c hj=>?_⟩
    obtain⟨u,h1,h2,h3,h4⟩:=hc' j c hj
    have hj':j<e:=by
     have:=(List.getElem?_eq_some_iff.1 hj).1
     omega
    refine⟨u,?_,h2.later hL,h3,h4⟩
    rw[hsame]
    ·exact h1
    ·have:(i'+1)*e≤k*e:=Nat.mul_le_mul_right e hik
     rw[Nat.add_mul]at this
     omega
   ·cases hx'
 ·simp only[Obj.gen,Option.some.injEq]at hg'
  subst hg'
  rw[hφ]at hφ'
  simp only[NQ.row.injEq]at hφ'
  obtain⟨rfl,_⟩:=hφ'
  exact .inr ⟨g,e,size,rfl,hφ⟩
theorem Uh {zs:Array Value} {n:Nat} {v:Value} (h0:0<zs.size) (h:v∈(Builtin.zeroCells zs n).toList):v∈zs.toList:=by
 simp only[Builtin.zeroCells,Array.toList_map,List.mem_map,Array.mem_toList_iff,Array.mem_range]at h
 obtain⟨i,_,rfl⟩:=h
 have hlt:i % zs.size<zs.size:=Nat.mod_lt _ h0
 rw[getElem!_pos zs _ hlt]
 exact Array.getElem_mem_toList hlt
theorem AaV {l:List Obj} {t:Nat} {ob:Obj} (h:nth l t=some ob):l.set t ob=l:=by
 rw[Aj]at h
 obtain⟨hlt,rfl⟩:=List.getElem?_eq_some_iff.1 h
 exact List.set_getElem_self hlt
theorem AaW (hI:Inv w0 B s Z φ w) {t ty e:TypeId} (hu:P.underlying t=some (.slice e)) {es:Nat} {z:AV} (hz:Et P e=some (es,z)) {x v:AV} {vx:Value} (hx:Rep w Z φ s.ctr x vx) {C:Aq} {env:Env} {ax:AO} (h1:ax.val env=x)
 (hev:Ae C (.clear es ax) env s=some (.ok v,s')):
 v=.undef∧∃w',(Builtin.clear_ #[t] ty #[vx]).run P w=.ok (.tuple #[]) w'∧Inv w0 B s' Z φ w'∧Later B w Z φ s.ctr w' Z φ s'.ctr:=by
 obtain⟨ie,zv,hi,hn,h0,hzv,hov,hzl,hcT⟩:=D5 hz
 obtain⟨hzr,hz1,hzs⟩:=Du (w:=w) (Z:=Z) (φ:=φ) (ctr:=s.ctr) hov
 simp only[Ae,h1]at hev
 split at hev
 ·rename_i o g off len
  split at hev
  ·rename_i g' es' nn cl elems ho
   split at hev
   ·rename_i hc
    obtain⟨rfl,rfl,hfit⟩:=hc
    simp only[Option.some.injEq,Prod.mk.injEq,AL.ok.injEq]at hev
    obtain⟨rfl,rfl⟩:=hev
    refine⟨rfl,?_⟩
    by_cases hl0:len=0
    ·subst hl0
     refine⟨w,?_,?_,?_⟩
     ·cases hx<;>simp[Builtin.clear_,run_underlying hu]
     ·rw[if_pos rfl,AaV ho];exact hI
     ·exact(hI.grow (Below.refl _ _) (fun _ _ h=>h) (fun _ _ h=>.inl h) (fun b i h=>hI.live b i h)).2
    ·rw[if_neg hl0]
     rw[Aj]at ho
     cases hx with
     |BP=>exact absurd rfl hl0
     |Dz=>exact absurd rfl hl0
     |own _ _ _ _ b es'' size cap ad hg hφ hcap ha hs=>
      obtain⟨rfl,hsize,hcm⟩:=ha (.inl (by omega))
      have hob:=hI.objs o _ ho
      obtain⟨k1,k2,k3⟩:=hob
      rw[hφ]at k3
      obtain⟨k4,k5,k6,k7,k8,cur,t',hcur,k10,k11⟩:=k3
      subst k5
      have hzc:=hzr.FI hzs
      have Akx:zv.cells.size=ie.size:=by rw[← hzc.1,hzl];exact hn.symm
      have hlenZ:(Builtin.zeroCells zv.cells len).toList.length=len*es'':=by
        rw[Array.length_toList,size_zeroCells,Akx,hn]
      have ZE:off*es''+len*es''≤cur.size:=by
        have:(off+len)*es''≤elems.length*es'':=Nat.mul_le_mul_right _ hfit
        rw[Nat.add_mul]at this
        omega
      have h1c:∀u∈(Builtin.zeroCells zv.cells len).toList,u.oneCell'=true:=by
        intro u hu'
        have hu:=Uh (by omega) hu'
        obtain⟨j,hj⟩:=List.mem_iff_getElem?.1 hu
        have hjl:j<z.cells.length:=by
          have:=(List.getElem?_eq_some_iff.1 hj).1
          simp at this;omega
        obtain⟨u',q1,q2,q3⟩:=hzc.2 j _ (List.getElem?_eq_getElem hjl)
        have:u=u':=by
          have hj':zv.cells[j]?=some u:=by simpa using hj
          rw[q1]at hj'
          exact(Option.some.inj hj').symm
        subst this
        exact(q2.oneCell q3).1
      have hrun:=run_storeCells_at P b (off*es'') t' (Builtin.zeroCells zv.cells len).toList 0 cur w hcur (by rw[hlenZ];omega) h1c
      have hcut:=hI.cut (k:=off) ho hφ (cs':=(cur.toList.take (off*es'')++(Builtin.zeroCells zv.cells len).toList++cur.toList.drop (off*es''+(Builtin.zeroCells zv.cells len).toList.length)).toArray) hcur (by simp[hlenZ];omega) (fun i hi=>by
        have:=F9 cur.toList (Builtin.zeroCells zv.cells len).toList (off*es'') (by rw[hlenZ];simpa using ZE) i
        rw[if_neg (by omega)]at this
        simpa using this)
      refine⟨_,?_,hcut.1,hcut.2⟩
      obtain⟨m,rfl⟩:∃m,len=m+1:=⟨len-1,by omega⟩
      simp only[Nat.add_zero]at hrun
      simp[Builtin.clear_,run_underlying hu,C9 hi hzv,hrun]
   ·cases hev
  ·cases hev
 ·cases hev
theorem YO (hI:Inv w0 B s Z φ w) {t ty e:TypeId} (hu:P.underlying t=some (.slice e)) {es bytes:Nat} {z:AV} (hz:Et P e=some (es,z)) {ie:TypeInfo} (hie:P.info? e=some ie) (hby:ie.bytes=bytes) (Aen:0<bytes)
 {a x:AV} {va vx:Value} (ha:Rep w Z φ s.ctr a va) (hx:Rep w Z φ s.ctr x vx) {ys:List AV} {cl:Bool} (hys:elemsOf s es x=some (ys,cl)) {v:AV} (hev:FX es bytes s a ys cl=some (v,s')):
 Qc w0 B w Z φ s.ctr s' v ((Builtin.append_ #[t,t] ty #[va,vx]).run P w):=by
 obtain⟨ie',zv,hi,hn,h0,hzv,hov,hzl,hcT⟩:=D5 hz
 rw[hie]at hi
 cases hi
 have hzs:zv.cells.size=es:=by
  obtain⟨hr,_,hs⟩:=Du (w:=w) (Z:=Z) (φ:=φ) (ctr:=s.ctr) hov
  rw[← (hr.FI hs).1,hzl]
 subst hn
 have fresh:∀(pre:List AV) (olds:List Value) (news:List Value) (clp:Bool) (old:Nat),Bq ie.size pre→BG w Z φ s.ctr (flat pre) olds.toArray→(clp=true→∀y∈pre,y.closed=true)→Bq ie.size ys→BG w Z φ s.ctr (flat ys) news.toArray→(cl=true→∀y∈ys,y.closed=true)→
  roomy bytes (pre.length+ys.length)→old<pre.length+ys.length→
  Below w.heap.size w (w.drew.alloc (.cells (olds.toArray++news.toArray++Builtin.zeroCells zv.cells (grownCap w (pre.length+ys.length) old e-(pre.length+ys.length))) e))∧
  Holds w Z φ s.ctr (olds.toArray++news.toArray++Builtin.zeroCells zv.cells (grownCap w (pre.length+ys.length) old e-(pre.length+ys.length))) ie.size (clp&&cl) (pre++ys)∧
  grownCap w (pre.length+ys.length) old e*ie.size=(olds.toArray++news.toArray++Builtin.zeroCells zv.cells (grownCap w (pre.length+ys.length) old e-(pre.length+ys.length))).size∧
  (pre++ys).length≤grownCap w (pre.length+ys.length) old e∧grownCap w (pre.length+ys.length) old e≤maxLen:=by
  intro pre olds news clp old hp1 hp2 hp3 hy1 hy2 hy3 hroom hold
  have hmax:pre.length+ys.length≤maxLen:=by
   unfold roomy at hroom
   unfold maxLen
   have:=Nat.le_mul_of_pos_right (pre.length+ys.length) Aen
   omega
  have hge:=grownCap_ge w (pre.length+ys.length) old e
  have hol:olds.length=pre.length*ie.size:=by
   have:=hp2.1;rw[flat_length hp1]at this;simpa using this.symm
  have hnl:news.length=ys.length*ie.size:=by
   have:=hy2.1;rw[flat_length hy1]at this;simpa using this.symm
  refine⟨(Below.refl w.heap.size w).drew.alloc (Nat.le_refl _) _,?_,?_,by simpa using hge,grownCap_le_maxLen w _ _ _ hmax⟩
  ·have hH:Holds w Z φ s.ctr (olds++news).toArray ie.size (clp&&cl) (pre++ys):=by
        refine BG.holds (fun y hy=>?_) (by rw[Qe];exact hp2.append hy2) (fun hc y hy=>?_)
        ·rcases List.mem_append.1 hy with h|h
         ·exact hp1 y h
         ·exact hy1 y h
        ·simp only[Bool.and_eq_true]at hc
         rcases List.mem_append.1 hy with h|h
         ·exact hp3 hc.1 y h
         ·exact hy3 hc.2 y h
   refine hH.extend fun k hk=>?_
   rw[Array.getElem?_append_left (by simpa using hk)]
   simp
  ·simp only[Array.size_append,List.size_toArray,size_zeroCells,hzs,hol,hnl,←Nat.add_mul]
   congr 1
   omega
 have hfits:∀n,roomy bytes n→∀old,old<n→Builtin.nextslicecap n old*ie.bytes≤281474976710656:=by
  intro n hr old ho
  refine growslice_fits ho ?_
  unfold roomy at hr
  rw[hby];omega
 have Xq:∀n,roomy bytes n→((n:Nat):Int)≤9223372036854775807:=by
  intro n hr
  unfold roomy at hr
  have:=Nat.le_mul_of_pos_right n Aen
  omega
 have hL1:∀(p:NQ),Later B w Z φ s.ctr w Z (Bd φ s.ctr p) (s.ctr+1):=fun p=>EC hI (Below.refl _ _) (fun _ _ h=>h) (fun _ _ h=>.inl h) (fun g hg=>ED φ _ hg) (by omega)
 unfold FX at hev
 split at hev
 ·
  split at hev
  ·rename_i hc
   obtain⟨hsz,hroom⟩:=hc
   simp only[Option.some.injEq,Prod.mk.injEq]at hev
   obtain⟨rfl,rfl⟩:=hev
   obtain⟨base,m,c,rfl,rfl,hb0,hb1,hcl⟩:=KR hI hx hys hsz
   cases ha
   by_cases hne:ys=[]
   ·subst hne
    refine⟨.slice none 0 0,w,Z,Bd φ s.ctr .nil,Eb hu hie none 0 0 (Nat.le_refl _) base c,?_,.BP _ _ (Nat.lt_succ_self _) (Af _ _ _),hL1 _⟩
    refine hI.push (Below.refl _ _) (hL1 _) (fun _ _ h=>.inl h) (fun b i h=>hI.live b i h) ⟨by omega,h0,?_⟩ rfl (fun b e n h=>?_)
    ·rw[Af];exact⟨rfl,rfl⟩
    ·rw[Af]at h;cases h
   ·cases base with
    |none=>exact(hne (hb0 rfl)).elim
    |some ad=>
     obtain⟨ab,ao,asp⟩:=ad
     obtain⟨hsp,hrow⟩:=hb1 _ rfl hne
     simp only at hsp
     subst hsp
     obtain⟨news,n1,n2,n3⟩:=hrow.news h0 hsz
     have hpos:0<ys.length:=List.length_pos_iff.2 hne
     obtain⟨f1,f2,f3,f4,f5⟩:=fresh [] [] news true 0 (fun y hy=>by simp at hy) ⟨rfl,fun i c h=>by simp[flat]at h⟩ (fun _ y hy=>by simp at hy) hsz n3 hcl (by simpa using hroom) (by simpa using hpos)
     have run:=run_append_nil (P:=P) w t ty e ie zv hu hie hzv ⟨ab,ao,none⟩ ys.length c news n1 n2 hpos (Xq _ hroom) (by have:=hfits _ hroom 0 hpos;rwa [nextslicecap_zero hpos]at this)
     simp only[List.length_nil,Nat.zero_add,List.nil_append,Array.empty_append,Bool.true_and]at f1 f2 f3 f4 f5
     obtain⟨φ',k1,k2,k3⟩:=JW hI f1 (Nat.le_refl _) (heap_alloc_new w.drew _) h0 f2 f3 f4 f5
     have e1:(!ys.isEmpty)=true:=by simp[hne]
     rw[e1]
     exact⟨_,_,Z,φ',run,k1,k2,k3⟩
  ·cases hev
 ·
  split at hev
  ·rename_i hc
   obtain⟨hsz,hroom⟩:=hc
   simp only[Option.some.injEq,Prod.mk.injEq]at hev
   obtain⟨rfl,rfl⟩:=hev
   obtain⟨base,m,c,rfl,rfl,hb0,hb1,hcl⟩:=KR hI hx hys hsz
   cases ha with
   |zc za=>
    by_cases hne:ys=[]
    ·subst hne
     refine⟨.slice (some za) 0 0,w,Z,Bd φ s.ctr .zc,Eb hu hie _ 0 0 (Nat.le_refl _) base c,?_,.Dz _ _ _ (Nat.lt_succ_self _) (Af _ _ _),hL1 _⟩
     refine hI.push (Below.refl _ _) (hL1 _) (fun _ _ h=>.inl h) (fun b i h=>hI.live b i h) ⟨by omega,h0,?_⟩ rfl (fun b e n h=>?_)
     ·rw[Af];exact⟨rfl,rfl⟩
     ·rw[Af]at h;cases h
    ·cases base with
     |none=>exact(hne (hb0 rfl)).elim
     |some ad=>
      obtain⟨ab,ao,asp⟩:=ad
      obtain⟨hsp,hrow⟩:=hb1 _ rfl hne
      simp only at hsp
      subst hsp
      obtain⟨news,n1,n2,n3⟩:=hrow.news h0 hsz
      have hpos:0<ys.length:=List.length_pos_iff.2 hne
      obtain⟨f1,f2,f3,f4,f5⟩:=fresh [] [] news true 0 (fun y hy=>by simp at hy) ⟨rfl,fun i c h=>by simp[flat]at h⟩ (fun _ y hy=>by simp at hy) hsz n3 hcl (by simpa using hroom) (by simpa using hpos)
      have run:=run_append_grow (P:=P) w t ty e ie zv hu hie hzv za 0 0 [] (by simp) (fun j v h=>by simp at h) ⟨ab,ao,none⟩ ys.length c news n1 n2 (by omega) (by simpa using Xq _ hroom) (by simpa using hfits _ hroom 0 hpos)
      simp only[List.length_nil,Nat.zero_add,List.nil_append,Bool.true_and]at f1 f2 f3 f4 f5 run
      obtain⟨φ',k1,k2,k3⟩:=JW hI f1 (Nat.le_refl _) (heap_alloc_new w.drew _) h0 f2 f3 f4 f5
      exact⟨_,_,Z,φ',run,k1,k2,k3⟩
  ·cases hev
 ·
  rename_i o g len
  split at hev
  ·rename_i g' es' nn cl' elems ho
   split at hev
   ·rename_i hc
    obtain⟨rfl,rfl,hlen,hsz,hroom⟩:=hc
    simp only[Option.some.injEq,Prod.mk.injEq]at hev
    obtain⟨rfl,rfl⟩:=hev
    rw[Aj]at ho
    obtain⟨base,m,c,rfl,rfl,hb0,hb1,hcl⟩:=KR hI hx hys hsz
    have hob:=hI.objs o _ ho
    obtain⟨og,_,h3⟩:=hob
    have RU:∀(w1:World) (cells:Array Value) (cap:Nat) (clp:Bool),Below w.heap.size w w1→w1.heap[w.heap.size]?=some (.cells cells e (0,0))→Holds w Z φ s.ctr cells ie.size clp (elems.take len++ys)→cap*ie.size=cells.size→(elems.take len++ys).length≤cap→cap≤maxLen→
     ∃φ',Inv w0 B ⟨s.σ.set o (.arr s.ctr ie.size true clp (elems.take len++ys)),s.ctr+1⟩ Z φ' w1∧Rep w1 Z φ' (s.ctr+1) (.own o s.ctr 0 (elems.take len++ys).length) (.slice (some ⟨w.heap.size,0,none⟩) (elems.take len++ys).length cap)∧Later B w Z φ s.ctr w1 Z φ' (s.ctr+1):=by
     intro w1 cells cap clp hbel hw1 hH hcap hle hmx
     have hL:Later B w Z φ s.ctr w1 Z (Bd φ s.ctr (.row w.heap.size ie.size cells.size)) (s.ctr+1):=EC hI hbel (fun _ _ h=>h) (fun _ _ h=>.inl h) (fun g hg=>ED φ _ hg) (by omega)
     refine⟨_,hI.set ho (hbel.mono hI.base) hL (fun b i h=>Nat.lt_of_lt_of_le (hI.live b i h) hbel.size) (fun o' ob' g' b' e' n' _ ho' hg' hφ'=>⟨hbel.block b' ((hI.objs o' ob' ho').place hg' hφ').1,fun i h=>h⟩) ?_ (fun g' b' e' n' hg' hφ'=>?_),?_,hL⟩
     ·refine⟨by omega,h0,?_⟩
      rw[Af]
      refine⟨rfl,rfl,hI.base,fun i hz=>?_,?_,cells,e,hw1,rfl,hH.later hL⟩
      ·have:=hI.live _ i hz;omega
      ·rw[← hcap];exact Nat.mul_le_mul_right _ hle
     ·simp only[Obj.gen,Option.some.injEq]at hg'
      subst hg'
      rw[Af]at hφ'
      simp only[NQ.row.injEq]at hφ'
      exact .inl (by omega)
     ·exact .own _ _ _ _ w.heap.size ie.size cells.size cap _ (by omega) (Af _ _ _) hle (fun _=>⟨by simp,by simpa using hcap,hmx⟩) rfl
    have htl:(elems.take len).length=len:=by simp;omega
    have AaX:(elems.take len++ys).length=len+ys.length:=by simp;omega
    cases ha with
    |BP _ _ hg hφ=>
     rw[hφ]at h3
     obtain⟨rfl,rfl⟩:=h3
     simp only[Bool.false_or,Nat.zero_add,List.take_nil,List.nil_append]at*
     by_cases hne:ys=[]
     ·subst hne
      refine⟨.slice none 0 0,w,Z,Bd φ s.ctr .nil,Eb hu hie none 0 0 (Nat.le_refl _) base c,?_,.BP _ _ (Nat.lt_succ_self _) (Af _ _ _),hL1 _⟩
      refine hI.set ho (Below.refl _ _) (hL1 _) (fun b i h=>hI.live b i h) (fun _ _ _ _ _ _ _ _ _ _=>⟨rfl,fun i h=>h⟩) ⟨by omega,h0,?_⟩ (fun g' b' e' n' hg' hφ'=>?_)
      ·rw[Af];exact⟨rfl,rfl⟩
      ·simp only[Obj.gen,Option.some.injEq]at hg'
       subst hg'
       rw[Af]at hφ';cases hφ'
     ·cases base with
      |none=>exact(hne (hb0 rfl)).elim
      |some ad=>
       obtain⟨ab,ao,asp⟩:=ad
       obtain⟨hsp,hrow⟩:=hb1 _ rfl hne
       simp only at hsp
       subst hsp
       obtain⟨news,n1,n2,n3⟩:=hrow.news h0 hsz
       have hpos:0<ys.length:=List.length_pos_iff.2 hne
       obtain⟨f1,f2,f3,f4,f5⟩:=fresh [] [] news cl' 0 (fun y hy=>by simp at hy) ⟨rfl,fun i c h=>by simp[flat]at h⟩ (fun _ y hy=>by simp at hy) hsz n3 hcl (by simpa using hroom) (by simpa using hpos)
       have run:=run_append_nil (P:=P) w t ty e ie zv hu hie hzv ⟨ab,ao,none⟩ ys.length c news n1 n2 hpos (Xq _ hroom) (by have:=hfits _ hroom 0 hpos;rwa [nextslicecap_zero hpos]at this)
       simp only[List.length_nil,Nat.zero_add,List.nil_append,Array.empty_append]at f1 f2 f3 f4 f5
       obtain⟨φ',k1,k2,k3⟩:=RU _ _ _ _ f1 (heap_alloc_new w.drew _) f2 f3 f4 f5
       have e1:(!ys.isEmpty)=true:=by simp[hne]
       rw[e1]
       exact⟨_,_,Z,φ',run,k1,k2,k3⟩
    |Dz _ _ za hg hφ=>
     rw[hφ]at h3
     obtain⟨rfl,rfl⟩:=h3
     simp only[Bool.true_or,Nat.zero_add,List.take_nil,List.nil_append]at*
     by_cases hne:ys=[]
     ·subst hne
      refine⟨.slice (some za) 0 0,w,Z,Bd φ s.ctr .zc,Eb hu hie _ 0 0 (Nat.le_refl _) base c,?_,.Dz _ _ _ (Nat.lt_succ_self _) (Af _ _ _),hL1 _⟩
      refine hI.set ho (Below.refl _ _) (hL1 _) (fun b i h=>hI.live b i h) (fun _ _ _ _ _ _ _ _ _ _=>⟨rfl,fun i h=>h⟩) ⟨by omega,h0,?_⟩ (fun g' b' e' n' hg' hφ'=>?_)
      ·rw[Af];exact⟨rfl,rfl⟩
      ·simp only[Obj.gen,Option.some.injEq]at hg'
       subst hg'
       rw[Af]at hφ';cases hφ'
     ·cases base with
      |none=>exact(hne (hb0 rfl)).elim
      |some ad=>
       obtain⟨ab,ao,asp⟩:=ad
       obtain⟨hsp,hrow⟩:=hb1 _ rfl hne
       simp only at hsp
       subst hsp
       obtain⟨news,n1,n2,n3⟩:=hrow.news h0 hsz
       have hpos:0<ys.length:=List.length_pos_iff.2 hne
       obtain⟨f1,f2,f3,f4,f5⟩:=fresh [] [] news cl' 0 (fun y hy=>by simp at hy) ⟨rfl,fun i c h=>by simp[flat]at h⟩ (fun _ y hy=>by simp at hy) hsz n3 hcl (by simpa using hroom) (by simpa using hpos)
       have run:=run_append_grow (P:=P) w t ty e ie zv hu hie hzv za 0 0 [] (by simp) (fun j v h=>by simp at h) ⟨ab,ao,none⟩ ys.length c news n1 n2 (by omega) (by simpa using Xq _ hroom) (by simpa using hfits _ hroom 0 hpos)
       simp only[List.length_nil,Nat.zero_add,List.nil_append]at f1 f2 f3 f4 f5 run
       obtain⟨φ',k1,k2,k3⟩:=RU _ _ _ _ f1 (heap_alloc_new w.drew _) f2 f3 f4 f5
       exact⟨_,_,Z,φ',run,k1,k2,k3⟩
    |own _ _ _ _ b es'' size cap ad hg hφ hcap ha hs=>
     obtain⟨rfl,hsize,hcm⟩:=ha (.inr rfl)
     rw[hφ]at h3
     obtain⟨rfl,he,hB,hnz,ZE,cur,t',hcur,hcs,hH⟩:=h3
     subst he
     simp only[Nat.zero_add,Nat.zero_mul]at hsize hcur ⊢
     simp only[Bool.true_or]
     obtain⟨p1,p2⟩:=hH.AaU h0 hlen (by rw[hcs];exact ZE)
     have p3:cl'=true→∀y∈elems.take len,y.closed=true:=by
      intro hc y hy
      obtain⟨i,hi⟩:=List.mem_iff_getElem?.1 (List.mem_of_mem_take hy)
      have hone:∀(j:Nat) (c:AV),y.cells[j]?=some c→c.closed=true:=by
         intro j c hj
         obtain⟨_,_,_,_,k⟩:=(hH i y hi).2 j c hj
         exact k hc
      cases y with
      |agg cs=>simp only[AV.closed];exact Dj hone
      |_=>exact hone 0 _ rfl
     by_cases hne:ys=[]
     ·subst hne
      refine⟨.slice (some ⟨b,0,none⟩) len cap,w,Z,Bd φ s.ctr (.row b ie.size size),Eb hu hie _ len cap hcap base c,?_,?_,hL1 _⟩
      ·refine hI.set ho (Below.refl _ _) (hL1 _) (fun b i h=>hI.live b i h) (fun _ _ _ _ _ _ _ _ _ _=>⟨rfl,fun i h=>h⟩) ⟨by omega,h0,?_⟩ (fun g' b' e' n' hg' hφ'=>?_)
       ·rw[Af]
        refine⟨rfl,rfl,hB,hnz,?_,cur,t',hcur,hcs,?_⟩
        ·rw[AaX]
         exact Nat.le_trans (Nat.mul_le_mul_right _ (by simpa using hlen)) ZE
        ·intro i x hx
         simp only[List.append_nil]at hx
         have hx':elems[i]?=some x:=by
           have hlt:i<len:=by
                 have:=(List.getElem?_eq_some_iff.1 hx).1
                 simp at this;omega
           rwa [List.getElem?_take_of_lt hlt]at hx
         obtain⟨q1,q2⟩:=hH i x hx'
         refine⟨q1,fun j y hy=>?_⟩
         obtain⟨u,r1,r2,r3,r4⟩:=q2 j y hy
         exact⟨u,r1,r2.later (hL1 _),r3,fun h=>r4 (by simp only[Bool.and_eq_true]at h;exact h.1)⟩
       ·simp only[Obj.gen,Option.some.injEq]at hg'
        subst hg'
        rw[Af]at hφ'
        simp only[NQ.row.injEq]at hφ'
        obtain⟨rfl,_⟩:=hφ'
        exact .inr ⟨g,_,_,rfl,hφ⟩
      ·simp only[List.length_nil,Nat.add_zero]
       exact .own _ _ _ _ b ie.size size cap _ (Nat.lt_succ_self _) (Af _ _ _) hcap (fun _=>⟨by simp,by simpa using hsize,hcm⟩) rfl
     ·cases base with
      |none=>exact(hne (hb0 rfl)).elim
      |some ad=>
       obtain⟨ab,ao,asp⟩:=ad
       obtain⟨hsp,hrow⟩:=hb1 _ rfl hne
       simp only at hsp
       subst hsp
       obtain⟨news,n1,n2,n3⟩:=hrow.news h0 hsz
       have hpos:0<ys.length:=List.length_pos_iff.2 hne
       by_cases hrm:len+ys.length≤cap
       ·
           have hfit:len*ie.size+news.length≤cur.size:=by
            rw[n1,←Nat.add_mul,hcs,←hsize]
            exact Nat.mul_le_mul_right _ hrm
           have run:=run_append_room' (P:=P) (ty:=ty) hu hie b len cap cur t' hcur ⟨ab,ao,none⟩ ys.length c news n1 n2 (VN n3) hrm hfit
           have hbel:Below B w (w.setRow b (cur.toList.take (len*ie.size)++news++cur.toList.drop (len*ie.size+news.length)).toArray):=⟨rfl,rfl,rfl,by simp,fun k hk=>setRow_other w b k _ (by omega)⟩
           have hL:Later B w Z φ s.ctr (w.setRow b (cur.toList.take (len*ie.size)++news++cur.toList.drop (len*ie.size+news.length)).toArray) Z (Bd φ s.ctr (.row b ie.size size)) (s.ctr+1):=by
            refine⟨fun _ _ h=>.inl h,by omega,fun _ _ h=>h,fun b' i h=>?_,fun g hg=>ED φ _ hg⟩
            refine setRow_other w b b' _ ?_
            rintro rfl
            exact hnz i h
           refine⟨_,_,Z,_,run,hI.set ho hbel hL (fun b' i h=>by simpa using hI.live b' i h) (fun o' ob' g' b' e' n' hne' ho' hg' hφ'=>⟨setRow_other w b b' _ ?_,fun i h=>h⟩) ⟨by omega,h0,?_⟩ (fun g' b' e' n' hg' hφ'=>?_),?_,hL⟩
           ·rintro rfl
            exact hne' (hI.apart o' o ob' _ g' g _ _ _ _ _ ho' ho hg' rfl hφ' hφ)
           ·rw[Af]
            refine⟨rfl,rfl,hB,hnz,?_,_,t',setRow_heap w b cur _ t' _ hcur,?_,?_⟩
            ·rw[AaX,←hsize];exact Nat.mul_le_mul_right _ hrm
            ·simp;omega
            ·have hHn:Holds w Z φ s.ctr (cur.toList.take (len*ie.size)++news).toArray ie.size (cl'&&cl) (elems.take len++ys):=by
               refine BG.holds (fun y hy=>?_) (by rw[Qe];exact p1.append n3) (fun hc y hy=>?_)
               ·rcases List.mem_append.1 hy with h|h
                ·exact p2 y h
                ·exact hsz y h
               ·simp only[Bool.and_eq_true]at hc
                rcases List.mem_append.1 hy with h|h
                ·exact p3 hc.1 y h
                ·exact hcl hc.2 y h
             refine(hHn.extend fun k hk=>?_).later hL
             show(cur.toList.take (len*ie.size)++news++cur.toList.drop (len*ie.size+news.length)).toArray[k]?=_
             rw[List.getElem?_toArray,List.getElem?_append_left hk]
           ·simp only[Obj.gen,Option.some.injEq]at hg'
            subst hg'
            rw[Af]at hφ'
            simp only[NQ.row.injEq]at hφ'
            obtain⟨rfl,_⟩:=hφ'
            exact .inr ⟨g,_,_,rfl,hφ⟩
           ·exact .own _ _ _ _ b ie.size size cap _ (Nat.lt_succ_self _) (Af _ _ _) hrm (fun _=>⟨by simp,by simpa using hsize,hcm⟩) rfl
       ·
           have hol:(cur.toList.take (len*ie.size)).length=len*ie.size:=by
            have:=p1.1
            rw[flat_length p2,htl]at this
            simpa using this.symm
           have hroom':roomy bytes ((elems.take len).length+ys.length):=by rw[htl];exact hroom
           obtain⟨f1,f2,f3,f4,f5⟩:=fresh (elems.take len) (cur.toList.take (len*ie.size)) news cl' cap p2 p1 p3 hsz n3 hcl hroom' (by rw[htl];omega)
           have run:=run_append_grow (P:=P) w t ty e ie zv hu hie hzv ⟨b,0,none⟩ len cap (cur.toList.take (len*ie.size)) hol (fun j u h=>by
            rw[Addr.add_lit]
            have hj:j<len*ie.size:=by
               have:=(List.getElem?_eq_some_iff.1 h).1
               rw[hol]at this;exact this
            rw[List.getElem?_take_of_lt hj]at h
            have h':cur[j]?=some u:=by simpa using h
            simp[World.cell?,hcur,h']) ⟨ab,ao,none⟩ ys.length c news n1 n2 (by omega) (Xq _ hroom) (hfits _ hroom cap (by omega))
           rw[htl]at f1 f2 f3 f4 f5
           obtain⟨φ',k1,k2,k3⟩:=RU _ _ _ _ f1 (heap_alloc_new w.drew _) f2 f3 f4 f5
           rw[AaX]at k2
           exact⟨_,_,Z,φ',run,k1,k2,k3⟩
   ·cases hev
  ·cases hev
 ·cases hev
end AI
end Go.Proofs.YtiimoiecghmebaaDoor
