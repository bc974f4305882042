/- strings.IndexFunc over the predicate of value.valid: the first byte that is not printable. -/
import Derived.Test.YtchcadfjbkkgmaaGreatDoorChecked
import Derived.Tactics
import Derived.Tactics2
import Derived.StillTactics
import Derived.Laws.RangeString
import Derived.Laws.RangeAny
import Derived.Laws.World
import Derived.Laws.Small
import Derived.Scope
import Derived.FnLit
import Derived.LoopTactic
set_option linter.unusedVariables false
set_option maxRecDepth 4000
namespace Go.Proofs.YtchcadfjbkkgmaaGreatDoor
namespace AI
def Oo (b:UInt8):Bool:=decide (b.toNat<32)||decide (126<b.toNat)
def JB (l:List UInt8):Int:=match l.findIdx? Oo with
 |some i=>i
 |none=>-1
def Ew (s:ByteArray) (pos:Nat):Int:=match(s.data.toList.drop pos).findIdx? Oo with
 |some i=>(pos+i:Nat)
 |none=>-1
theorem Xk (s:ByteArray) (pos:Nat) (h:¬pos<s.size):Ew s pos=-1:=by
 have hl:s.data.toList.length=s.size:=Array.length_toList
 unfold Ew
 rw[List.drop_eq_nil_of_le (by omega)]
 rfl
theorem Oq (s:ByteArray) (pos:Nat) (h:pos<s.size):Ew s pos=if Oo (s[pos]'h)then(pos:Int)else Ew s (pos+1):=by
 have hl:s.data.toList.length=s.size:=Array.length_toList
 have hd:s.data.toList.drop pos=(s[pos]'h)::s.data.toList.drop (pos+1):=by
  rw[List.drop_eq_getElem_cons (by omega)]
  rfl
 unfold Ew
 rw[hd,List.findIdx?_cons]
 cases hb:Oo (s[pos]'h)
 ·simp only[Bool.false_eq_true,if_false]
  cases List.findIdx? Oo (s.data.toList.drop (pos+1))with
  |none=>rfl
  |some i=>simp only[Option.map_some];congr 1;omega
 ·simp
theorem Xl (s:ByteArray) (pos:Nat) (h:pos<s.size):(((Utf8.decode s pos).1:Int)<32∨126<((Utf8.decode s pos).1:Int))↔Oo (s[pos]'h)=true:=by
 unfold Oo
 rw[Bool.or_eq_true,decide_eq_true_iff,decide_eq_true_iff]
 by_cases ha:(s[pos]'h).toNat<128
 ·rw[decode_ascii s pos h ha]
  show(((s[pos]'h).toNat:Int)<32∨(126:Int)<((s[pos]'h).toNat:Int))↔_
  omega
 ·have:=decode_high s pos h (by omega)
  omega
theorem Aa7 (s:ByteArray) (pos:Nat) (h:pos<s.size) (h1:32≤((Utf8.decode s pos).1:Int)) (h2:((Utf8.decode s pos).1:Int)≤126):(Utf8.decode s pos).2=1∧Ew s pos=Ew s (pos+1):=by
 constructor
 ·by_cases ha:(s[pos]'h).toNat<128
  ·rw[decode_ascii s pos h ha]
  ·have:=decode_high s pos h (by omega)
   omega
 ·rw[Oq s pos h]
  have:=Xl s pos h
  rw[if_neg]
  intro hb
  have:=this.2 hb
  omega
theorem AcE (s:ByteArray) (pos:Nat) (h:pos<s.size) (hb:((Utf8.decode s pos).1:Int)<32∨126<((Utf8.decode s pos).1:Int)):Ew s pos=(pos:Int):=by
 rw[Oq s pos h,if_pos ((Xl s pos h).1 hb)]
set_option maxRecDepth 1000000 in
theorem AiQ (s:ByteArray) (w:World):
 Calls Tryz.prog 213 #[.string s,.func (.func 186) #[] #[],.bool true] w fun e w'=>e=.returned (.int .i64 (Ew s 0))∧∃pos,w'=w.iter s pos:=by
 go_enter Tryz.func213,Tryz.ntmps213
 go_wp2
 go_loopw [7,8] (fun i r w'=>∃(pos:Nat),w'=w.iter s pos∧pos≤s.size∧Ew s pos=Ew s 0) (fun _ _ w'=>s.size-w'.iterPos w.heap.size)
 case atStart=>exact⟨0,rfl,Nat.zero_le _,rfl⟩
 case round=>
  obtain⟨pos,rfl,hp0,hb⟩:=hrel
  by_cases hp:pos<s.size
  ·have hnx:∀ty,(Instr.next (.pointer (some ⟨w.heap.size,0,none⟩)) true ty).run Tryz.prog (w.iter s pos)=_:=fun ty=>run_next_any w s pos ty hp
   go_wp2
   ·go_ret
    exact⟨by rw[← hb,AcE s pos hp (by assumption)];rfl,_,rfl⟩
   ·have hg:=Aa7 s pos hp (by omega) (by omega)
    refine⟨⟨pos+1,by rw[hg.1],by omega,by rw[← hg.2];exact hb⟩,?_⟩
    rw[hg.1];omega
   ·go_ret
    exact⟨by rw[← hb,AcE s pos hp (.inl (by assumption))];rfl,_,rfl⟩
  ·have hnx:∀ty,(Instr.next (.pointer (some ⟨w.heap.size,0,none⟩)) true ty).run Tryz.prog (w.iter s pos)=_:=fun ty=>run_next_end w s pos ty hp
   go_wp2
   go_ret
   exact⟨by rw[← hb,Xk s pos hp];rfl,_,rfl⟩
end AI
end Go.Proofs.YtchcadfjbkkgmaaGreatDoor
