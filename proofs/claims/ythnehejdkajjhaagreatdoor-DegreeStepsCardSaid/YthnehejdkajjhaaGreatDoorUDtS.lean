/- The reference's Steps answers. -/
import Derived.Test.YthnehejdkajjhaaGreatDoorUMaj
import Derived.Test.YthnehejdkajjhaaGreatDoorUMad
set_option linter.unusedVariables false
set_option maxRecDepth 4000
namespace Go.Proofs.YthnehejdkajjhaaGreatDoor
namespace AI
structure AJ where
 fr:Int
 to:Int
 ed:Int
def AJ.av (a:AJ):AV:=.agg [.int .i64 a.fr,.int .i64 a.to,.int .i64 a.ed]
theorem ZP:∀a:AJ,a.av.cells.length=3:=fun _=>rfl
theorem Arw {g:GG} {len c go gx:Nat} {nn:Bool} {W:List AJ} {x:AJ} {id dir ii:Int} (hl:len=W.length) (h0:0<len) (hs:len<2^61) {Q:Aw→Env→Aq→Prop}
 (hQ:∀(t:Nat) (W':List AJ),W'.length=len→t<len→Q (.exit 2) [(1,.int .i64 id),(2,.sl false []),(3,.int .i64 dir),(4,.ref 0 0 0 0),(9,.own 1 go 0 len),(10,.int .i64 ii),(11,.ref 2 gx 0 0),(13,.int .i64 t),(84,.bool false)] ⟨[.arr 0 4 true true [g.av],.arr go 3 nn true (vs AJ.av W'),.arr gx 3 true true [x.av]],c⟩):
 Run (Ac tab) (.loop l189_0_h l189_0_b) [(1,.int .i64 id),(2,.sl false []),(3,.int .i64 dir),(4,.ref 0 0 0 0),(9,.own 1 go 0 len),(10,.int .i64 ii),(11,.ref 2 gx 0 0),(13,.int .i64 (len-1:Nat))] ⟨[.arr 0 4 true true [g.av],.arr go 3 nn true (vs AJ.av W),.arr gx 3 true true [x.av]],c⟩ Q:=by
 refine Af (fun m env s=>∃(t:Nat) (W:List AJ),m=t∧t<len∧W.length=len∧env=[(1,.int .i64 id),(2,.sl false []),(3,.int .i64 dir),(4,.ref 0 0 0 0),(9,.own 1 go 0 len),(10,.int .i64 ii),(11,.ref 2 gx 0 0),(13,.int .i64 t)]∧s=⟨[.arr 0 4 true true [g.av],.arr go 3 nn true (vs AJ.av W),.arr gx 3 true true [x.av]],c⟩) ?_ _ _ _ ⟨len-1,W,rfl,by omega,hl.symm,rfl,rfl⟩
 clear hl
 rintro m _ _ ⟨t,W,hm,ht,hW,rfl,rfl⟩
 subst m
 refine⟨rfl,?_⟩
 by_cases h:0<t
 ·(conv=>whnf);repeat' (first|(apply Au;(· exact nVz (t-1) (by omega) (by omega));conv=>whnf)|((with_reducible show eqK _ _);refine tV ZP (x:=W[t-1]) t ?_ (by omega);conv=>whnf)|(refine kA ?_;conv=>whnf)|(refine Br.mk (fun hc=>?_) fun hc=>?_<;>first|exact hc.elim|conv=>whnf)|(refine kB ?_))
  all_goals first
   |(refine again.mk ⟨t-1,by omega,t-1,W.set t W[t-1],rfl,by omega,by rw[List.length_set];exact hW,?_,rfl⟩;rw[show ((t-1:Nat):Int)=(t:Int)-1 by omega];done)
   |(refine again.mk ⟨t-1,by omega,t-1,W.set t W[t-1],rfl,by omega,by rw[List.length_set];exact hW,?_,rfl⟩;rw[show ((t-1:Nat):Int)=(t:Int)-1 by omega];rfl)
   |exact hQ _ _ hW ht
 ·(conv=>whnf);repeat' (first  |(refine kA ?_;conv=>whnf)|(refine Br.mk (fun hc=>?_) fun hc=>?_<;>first|exact hc.elim|conv=>whnf)|(refine kB ?_))
  exact hQ _ _ hW ht
end AI
end Go.Proofs.YthnehejdkajjhaaGreatDoor
