/- strings.IndexFunc over the predicate of value.valid: the first byte that is not printable. -/
import Derived.Test.YtiimoiecghmebaaDoorChecked
import Derived.Tactics
import Derived.Tactics2
import Derived.StillTactics
import Derived.Laws.RangeString
import Derived.Laws.RangeAny
import Derived.Laws.World
import Derived.Laws.Small
import Derived.Scope
import Derived.FnLit
import Derived.LoopTactic
set_option linter.unusedVariables false
namespace Go.Proofs.YtiimoiecghmebaaDoor
namespace AI
def Sz (b:UInt8):Bool:=decide (b.toNat<32)||decide (126<b.toNat)
def Jq (l:List UInt8):Int:=match l.findIdx? Sz with
 |some i=>i
 |none=>-1
def Em (s:ByteArray) (pos:Nat):Int:=match(s.data.toList.drop pos).findIdx? Sz with
 |some i=>(pos+i:Nat)
 |none=>-1
theorem XG (s:ByteArray) (pos:Nat) (h:¬pos<s.size):Em s pos=-1:=by
 have hl:s.data.toList.length=s.size:=Array.length_toList
 unfold Em
 rw[List.drop_eq_nil_of_le (by omega)]
 rfl
theorem OE (s:ByteArray) (pos:Nat) (h:pos<s.size):Em s pos=if Sz (s[pos]'h)then(pos:Int)else Em s (pos+1):=by
 have hl:s.data.toList.length=s.size:=Array.length_toList
 have hd:s.data.toList.drop pos=(s[pos]'h)::s.data.toList.drop (pos+1):=by
  rw[List.drop_eq_getElem_cons (by omega)]
  rfl
 unfold Em
 rw[hd,List.findIdx?_cons]
 cases hb:Sz (s[pos]'h)
 ·simp only[Bool.false_eq_true,if_false]
  cases List.findIdx? Sz (s.data.toList.drop (pos+1))with
  |none=>rfl
  |some i=>simp only[Option.map_some];congr 1;omega
 ·simp
theorem XH (s:ByteArray) (pos:Nat) (h:pos<s.size):(((Utf8.decode s pos).1:Int)<32∨126<((Utf8.decode s pos).1:Int))↔Sz (s[pos]'h)=true:=by
 unfold Sz
 rw[Bool.or_eq_true,decide_eq_true_iff,decide_eq_true_iff]
 by_cases ha:(s[pos]'h).toNat<128
 ·rw[decode_ascii s pos h ha]
  show(((s[pos]'h).toNat:Int)<32∨(126:Int)<((s[pos]'h).toNat:Int))↔_
  omega
 ·have:=decode_high s pos h (by omega)
  omega
theorem Aa6 (s:ByteArray) (pos:Nat) (h:pos<s.size) (h1:32≤((Utf8.decode s pos).1:Int)) (h2:((Utf8.decode s pos).1:Int)≤126):(Utf8.decode s pos).2=1∧Em s pos=Em s (pos+1):=by
 constructor
 ·by_cases ha:(s[pos]'h).toNat<128
  ·rw[decode_ascii s pos h ha]
  ·have:=decode_high s pos h (by omega)
   omega
 ·rw[OE s pos h]
  have:=XH s pos h
  rw[if_neg]
  intro hb
  have:=this.2 hb
  omega
theorem AcN (s:ByteArray) (pos:Nat) (h:pos<s.size) (hb:((Utf8.decode s pos).1:Int)<32∨126<((Utf8.decode s pos).1:Int)):Em s pos=(pos:Int):=by
 rw[OE s pos h,if_pos ((XH s pos h).1 hb)]
set_option maxRecDepth 1000000 in
theorem Aip (s:ByteArray) (w:World):
 Calls Tryd.prog 87 #[.string s,.func (.func 84) #[] #[],.bool true] w fun e w'=>e=.returned (.int .i64 (Em s 0))∧∃pos,w'=w.iter s pos:=by
 go_enter Tryd.func87,Tryd.ntmps87
 go_wp2
 go_loopw [7,8] (fun i r w'=>∃(pos:Nat),w'=w.iter s pos∧pos≤s.size∧Em s pos=Em s 0) (fun _ _ w'=>s.size-w'.iterPos w.heap.size)
 case atStart=>exact⟨0,rfl,Nat.zero_le _,rfl⟩
 case round=>
  obtain⟨pos,rfl,hp0,hb⟩:=hrel
  by_cases hp:pos<s.size
  ·have hnx:∀ty,(Instr.next (.pointer (some ⟨w.heap.size,0,none⟩)) true ty).run Tryd.prog (w.iter s pos)=_:=fun ty=>run_next_any w s pos ty hp
   go_wp2
   ·go_ret
    exact⟨by rw[← hb,AcN s pos hp (by assumption)];rfl,_,rfl⟩
   ·have hg:=Aa6 s pos hp (by omega) (by omega)
    refine⟨⟨pos+1,by rw[hg.1],by omega,by rw[← hg.2];exact hb⟩,?_⟩
    rw[hg.1];omega
   ·go_ret
    exact⟨by rw[← hb,AcN s pos hp (.inl (by assumption))];rfl,_,rfl⟩
  ·have hnx:∀ty,(Instr.next (.pointer (some ⟨w.heap.size,0,none⟩)) true ty).run Tryd.prog (w.iter s pos)=_:=fun ty=>run_next_end w s pos ty hp
   go_wp2
   go_ret
   exact⟨by rw[← hb,XG s pos hp];rfl,_,rfl⟩
end AI
end Go.Proofs.YtiimoiecghmebaaDoor
