/- Scripts hold fine values; lists of lists. -/
import Derived.Test.YtnbibfalljlmfaaGreatDoorDeS
set_option linter.unusedVariables false
set_option maxRecDepth 4000
namespace Go.Proofs.YtnbibfalljlmfaaGreatDoor
namespace AI
theorem Ayw {op id fr to:Int} {k:List UInt8}:Ac1 (GC.mk op id fr to k Z0).v:=Ayj
theorem AgC {op id:Int} {l m:List (List UInt8)}:∀c∈Gf op id l m,Ac1 c.v:=fun c hc=>by
  obtain⟨x,_,rfl⟩:=List.mem_map.1 hc
  exact Ayw
theorem AoZ {op id:Int} {a b:List GP} (h:Ud b):∀c∈valuesL op id a b,Ac1 c.v:=fun c hc=>by
  obtain⟨x,hx,rfl⟩:=List.mem_map.1 hc
  have:=h.2 x (List.mem_filter.1 hx).1
  exact⟨this.1.2,this.2⟩
theorem Aoc {a b:GG} (hb:PG b):∀c∈O1 a b,Ac1 c.v:=fun c hc=>by
  rcases List.mem_append.1 hc with h|h
  · rcases List.mem_append.1 h with h|h<;>(obtain ⟨x,_,rfl⟩:=List.mem_map.1 h;exact Ayw)
  · rcases List.mem_append.1 h with h|h
    · rcases List.mem_append.1 h with h|h
      · obtain⟨x,_,rfl⟩:=List.mem_map.1 h;exact Ayw
      · obtain⟨n,hn,h⟩:=List.mem_flatMap.1 h
        have hg:=(hb.nodes n hn).2.2.2.1
        rcases List.mem_append.1 h with h|h
        · exact AgC c h
        · rcases List.mem_append.1 h with h|h
          · exact AgC c h
          · rcases List.mem_append.1 h with h|h
            · exact AgC c h
            · exact AoZ hg c h
    · rcases List.mem_append.1 h with h|h
      · obtain⟨x,_,rfl⟩:=List.mem_map.1 h;exact Ayw
      · obtain⟨n,hn,h⟩:=List.mem_flatMap.1 h
        rcases List.mem_append.1 h with h|h
        · exact AgC c h
        · exact AoZ (hb.edges n hn).2.2.1 c h
theorem Ayl {α β:Type} {f:α→List β} {l:List α} {k:Nat} (h:∀x∈l,(f x).length≤k):(l.flatMap f).length≤k*l.length:=by
  induction l with
  |nil=>simp
  | cons a l ih=>
    have h1:=h a (by simp)
    have h2:=ih fun x hx=>h x (by simp[hx])
    rw[List.flatMap_cons,List.length_append,List.length_cons,Nat.mul_add]
    omega
end AI
end Go.Proofs.YtnbibfalljlmfaaGreatDoor
