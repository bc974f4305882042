/- strings.IndexFunc over the predicate of value.valid, as an entry of the table. -/
import Derived.Test.YtgmgkkbpgndaaaaGreatDoorSe
import Derived.Test.YtgmgkkbpgndaaaaGreatDoorIxWalk
import Derived.Tactics
import Derived.Tactics2
import Derived.StillTactics
import Derived.Scope
import Derived.FnLit
import Derived.Handy
set_option linter.unusedVariables false
set_option maxRecDepth 4000
namespace Go.Proofs.YtgmgkkbpgndaaaaGreatDoor
namespace AI
open Go.RowKit
set_option maxRecDepth 1000000 in
theorem walkF (s:ByteArray) (w:World):
 Calls Tryz.prog 173 #[.string s,.func (.func 174) #[] #[]] w fun e w'=>e=.returned (.int .i64 (badFrom s 0))∧∃pos,w'=w.iter s pos:=by
 go_enter Tryz.func173,Tryz.ntmps173
 go_wp2_with fail
 go_call (walkI s w) as e w' ⟨he,hb⟩
 subst he
 obtain⟨p,rfl⟩:=hb
 simp only[]
 go_wp2_with fail
 go_ret
 exact⟨rfl,_,rfl⟩
def ixSpec:List AV→Sto→Option (AOut×Sto)
 |[.str l,.fn k []],s=>bif Nat.beq k 174 then some (.ok (.int .i64 (firstBad l)),s)else none
 |_,_=>none
theorem ix_ok:CallSound Tryz.prog fun f' args s=>if f'=173 then ixSpec args s else none:=by
 intro f args s out s' h
 replace h:(if f=173 then ixSpec args s else none)=some (out,s'):=h
 rcases Decidable.em (f=173)with hf|hf
 case inr=>rw[if_neg hf]at h;cases h
 rw[if_pos hf]at h
 subst hf
 unfold ixSpec at h
 split at h
 case h_2=>cases h
 rename_i l k
 cases hk:Nat.beq k 174 with
 |false=>rw[hk]at h;cases h
 |true=>
  rw[hk]at h
  have hk':=Nat.eq_of_beq_eq_true hk
  subst hk'
  cases h
  refine fun w0 B Z φ w vs hI hargs=>.inl ⟨⟨_,Tryz.func173,rfl,by decide⟩,?_⟩
  obtain⟨hl,ha⟩:=hargs
  obtain⟨v0,h0,r0⟩:=ha 0 _ rfl
  obtain⟨v1,h1,r1⟩:=ha 1 _ rfl
  cases r0 with
  |str sb _ hs=>
  cases r1 with
  |fn _ _ cvs hcl hcr=>
  have hc0:cvs=#[]:=Array.eq_empty_of_size_eq_zero hcl.symm
  subst hc0
  have hvs:vs=#[.string sb,.func (.func 174) #[] #[]]:=by
   apply Array.ext'
   refine List.ext_getElem? fun i=>?_
   match i with
   |0=>simpa using h0
   |1=>simpa using h1
   |i+2=>
    have:vs.toList.length=2:=by simpa using hl.symm
    rw[List.getElem?_eq_none (by omega)]
    rfl
  subst hvs
  refine(walkF sb w).mono ?_
  rintro e w' ⟨rfl,p,rfl⟩
  obtain⟨q1,q2⟩:=hI.grow (w':=w.iter sb p) (Below.alloc (Below.refl _ _) (Nat.le_refl _) _) (fun _ _ h=>h) (fun _ _ h=>.inl h) (fun b i h=>Nat.lt_of_lt_of_le (hI.live b i h) (by simp[World.iter]))
  refine⟨Z,φ,q1,q2,_,rfl,?_⟩
  have:badFrom sb 0=firstBad l:=by
   unfold badFrom firstBad
   rw[List.drop_zero,hs]
   cases List.findIdx? badB l with
   |none=>rfl
   |some i=>simp
  rw[this]
  exact .int _ _
end AI
end Go.Proofs.YtgmgkkbpgndaaaaGreatDoor
