/- A step keeps graphs in good form; their lengths: plain. -/
import Derived.Test.YtnbibfalljlmfaaGreatDoorMbk
set_option linter.unusedVariables false
set_option maxRecDepth 4000
namespace Go.Proofs.YtnbibfalljlmfaaGreatDoor
namespace AI
theorem ok_setN {g:GG} {m:GN} {L:List GN} (hg:g.ok) (hm:m.ok) (hL:Ln L) (h:∀x∈L,x=m∨x∈g.nodes) {z:Int} (hz:I64 z):(⟨true,L,g.en,g.edges,z,g.Afg⟩:GG).ok:=by
  obtain⟨g1,g2,g3,g4,g5,g6,g7,g8⟩:=hg
  refine⟨hL,fun h=>Bool.noConfusion h,fun x hx=>?_,g4,g5,g6,hz,g8⟩
  rcases h x hx with rfl|h
  · exact hm
  · exact g3 x h
theorem ok_setE {g:GG} {m:GE} {L:List GE} (hg:g.ok) (hm:m.ok) (hL:Ln L) (h:∀x∈L,x=m∨x∈g.edges) {z:Int} (hz:I64 z):(⟨g.nn,g.nodes,true,L,g.AeT,z⟩:GG).ok:=by
  obtain⟨g1,g2,g3,g4,g5,g6,g7,g8⟩:=hg
  refine⟨g1,g2,g3,hL,fun h=>Bool.noConfusion h,fun x hx=>?_,g7,hz⟩
  rcases h x hx with rfl|h
  · exact hm
  · exact g6 x h
theorem ln_put {α:Type} {lt:Int→Int→Bool} {key:α→Int} {x:α} {l:List α} (hs:STO lt) (h:l.length≤100000):Ln (Tc lt key x l):=by
  have:=Agz (key:=key) hs (x:=x) (l:=l);unfold Ln;omega
theorem ln_putS {α:Type} {key:α→List UInt8} {x:α} {l:List α} (h:l.length≤100000):Ln (Tc Op.bytesLess key x l):=by
  have:=Agz (key:=key) G7 (x:=x) (l:=l);unfold Ln;omega
theorem ln_delS {α:Type} {key:α→List UInt8} {x:List UInt8} {l:List α} (h:l.length≤100000):Ln (AhH Op.bytesLess key x l):=by
  have:=Aee (key:=key) G7 (k:=x) (l:=l);unfold Ln;omega
theorem ok_lab {n:GN} {b:Bool} {L:List (List UInt8)} {x:List UInt8} (hn:n.ok) (hx:Ln x) (hL:Ln L) (hb:b=false→L=[]) (h:∀y∈L,y=x∨y∈n.labels):(⟨n.id,b,L,n.pn,n.props⟩:GN).ok:=by
  obtain⟨o1,o2,o3,o4,o5,o6,o7⟩:=hn
  refine⟨o1,hL,hb,fun s hs=>?_,o5,o6,o7⟩
  rcases h s hs with rfl|h
  · exact hx
  · exact o4 s h
theorem ok_prp {n:GN} {b:Bool} {L:List GP} {x:GP} (hn:n.ok) (hx:x.ok) (hL:Ln L) (hb:b=false→L=[]) (h:∀y∈L,y=x∨y∈n.props):(⟨n.id,n.ln,n.labels,b,L⟩:GN).ok:=by
  obtain⟨o1,o2,o3,o4,o5,o6,o7⟩:=hn
  refine⟨o1,o2,o3,o4,hL,hb,fun s hs=>?_⟩
  rcases h s hs with rfl|h
  · exact hx
  · exact o7 s h
theorem ok_prE {n:GE} {b:Bool} {L:List GP} {x:GP} (hn:n.ok) (hx:x.ok) (hL:Ln L) (hb:b=false→L=[]) (h:∀y∈L,y=x∨y∈n.props):(⟨n.id,n.fr,n.to,n.ty,b,L⟩:GE).ok:=by
  obtain⟨o1,o2,o3,o4,o5,o6,o7⟩:=hn
  refine⟨o1,o2,o3,o4,hL,hb,fun s hs=>?_⟩
  rcases h s hs with rfl|h
  · exact hx
  · exact o7 s h
theorem newN_ok {z:Int} (h:I64 z):(⟨z,false,[],false,[]⟩:GN).ok:=⟨h,by simp[Ln],fun _=>rfl,by simp,by simp[Ln],fun _=>rfl,by simp⟩
theorem newE_ok {z fr to:Int} {nm:List UInt8} (h:I64 z) (h1:I64 fr) (h2:I64 to) (h3:Ln nm):(⟨z,fr,to,nm,false,[]⟩:GE).ok:=⟨h,h1,h2,h3,by simp[Ln],fun _=>rfl,by simp⟩
theorem AQ8 (g:GG) (c:GC):(stepG g c).2.nodes.length≤g.nodes.length+1∧(stepG g c).2.edges.length≤g.edges.length+1:=by
  have h0:g.nodes.length≤g.nodes.length+1∧g.edges.length≤g.edges.length+1:=⟨by omega,by omega⟩
  have hp:∀x,(Tc ltI GN.id x g.nodes).length≤g.nodes.length+1∧g.edges.length≤g.edges.length+1:=fun x=>⟨Agz Hu,by omega⟩
  have hq:∀x,g.nodes.length≤g.nodes.length+1∧(Tc ltI GE.id x g.edges).length≤g.edges.length+1:=fun x=>⟨by omega,Agz Hu⟩
  unfold stepG
  split
  · exact h0
  split
  · unfold AhO
    repeat' split
    all_goals first|exact h0|exact hp _|exact⟨Nat.le_succ_of_le (Aee Hu),h0.2⟩
  · unfold AmZ
    repeat' split
    all_goals first|exact h0|exact hq _|exact⟨h0.1,Nat.le_succ_of_le (Aee Hu)⟩
theorem ABw {g:GG} (hg:g.ok) {z:Int} (hl:g.nodes.length≤100000):({g with nodes:=AhH ltI GN.id z g.nodes}:GG).ok:=by
  obtain⟨g1,g2,g3,g4,g5,g6,g7,g8⟩:=hg
  refine⟨?_,fun h=>?_,fun x hx=>g3 x (SC hx),g4,g5,g6,g7,g8⟩
  · have:=Aee (key:=GN.id) Hu (k:=z) (l:=g.nodes);unfold Ln;dsimp only;omega
  · rw[show g.nodes=[] from g2 h];rfl
theorem ABx {g:GG} (hg:g.ok) {z:Int} (hl:g.edges.length≤100000):({g with edges:=AhH ltI GE.id z g.edges}:GG).ok:=by
  obtain⟨g1,g2,g3,g4,g5,g6,g7,g8⟩:=hg
  refine⟨g1,g2,g3,?_,fun h=>?_,fun x hx=>g6 x (SC hx),g7,g8⟩
  · have:=Aee (key:=GE.id) Hu (k:=z) (l:=g.edges);unfold Ln;dsimp only;omega
  · rw[show g.edges=[] from g5 h];rfl
theorem Auu {g:GG} {n m:GN} (hg:g.ok) (hl:g.nodes.length≤100000) (hn:n∈g.nodes) (hm:m.ok):({g with nodes:=Tc ltI GN.id m g.nodes}:GG).ok:=by
  have hb:g.nn=true:=by
    cases hb:g.nn with
    |true=>rfl
    |false=>have:=hg.2.1 hb;rw[this]at hn;cases hn
  have:=ok_setN hg hm (ln_put (key:=GN.id) Hu hl) (fun x hx=>Nk Hu hx) hg.2.2.2.2.2.2.1
  rw[← hb]at this
  exact this
theorem AzF {g:GG} {n m:GE} (hg:g.ok) (hl:g.edges.length≤100000) (hn:n∈g.edges) (hm:m.ok):({g with edges:=Tc ltI GE.id m g.edges}:GG).ok:=by
  have hb:g.en=true:=by
    cases hb:g.en with
    |true=>rfl
    |false=>have:=hg.2.2.2.2.1 hb;rw[this]at hn;cases hn
  have:=ok_setE hg hm (ln_put (key:=GE.id) Hu hl) (fun x hx=>Nk Hu hx) hg.2.2.2.2.2.2.2
  rw[← hb]at this
  exact this
theorem AwK {a b:Int} (ha:idG a) (hb:I64 b):I64 (if a+1>b then a+1 else b):=by unfold I64 idG at *;split<;>omega
theorem ABy {g:GG} {c:GC} (hg:g.ok) (ha:Ajy g) (hc:c.ok):(stepG g c).2.ok:=by
  have lN:=ha.lN
  have lE:=ha.lE
  obtain⟨c1,c2,c3,c4,c5,c6⟩:=hc
  unfold stepG
  split
  · exact hg
  rename_i hk
  have hid:=(AX4 (Classical.not_not.1 hk)).2.1
  split
  · unfold AhO
    split
    · split
      · exact hg
      split
      · exact ok_setN hg (newN_ok c2) (ln_put Hu (by omega)) (fun x hx=>Nk Hu hx) (AwK hid hg.2.2.2.2.2.2.1)
      · exact hg
    split
    · exact hg
    rename_i n hf
    have hn:=List.mem_of_find?_eq_some hf
    have hno:=hg.2.2.1 n hn
    have hA:=ha.aN n hn
    have l1:=hA.lL
    have l2:=hA.lP
    split
    · split
      · exact hg
      · exact ABw hg (by omega)
    split
    · split
      · exact hg
      split
      · exact Auu hg (by omega) hn (ok_lab hno c5 (ln_putS (by omega)) (fun h=>Bool.noConfusion h) (fun y hy=>Nk G7 hy))
      · exact hg
    split
    · split
      · exact Auu hg (by omega) hn (ok_lab hno c5 (ln_delS (by omega)) (fun h=>Bool.noConfusion h) (fun y hy=>.inr (SC hy)))
      · exact hg
    split
    · refine Auu hg (by omega) hn (ok_prp (x:=⟨c.name,c.v⟩) hno ⟨c5,c6⟩ (ln_delS (by omega)) (fun h=>?_) (fun y hy=>.inr (SC hy)))
      rw[show n.props=[] from hno.2.2.2.2.2.1 h];rfl
    split
    · exact Auu hg (by omega) hn (ok_prp (x:=⟨c.name,c.v⟩) hno ⟨c5,c6⟩ (ln_putS (by omega)) (fun h=>Bool.noConfusion h) (fun y hy=>Nk G7 hy))
    · exact hg
  · unfold AmZ
    split
    · split
      · exact hg
      split
      · split
        · exact ok_setE hg (newE_ok c2 c3 c4 c5) (ln_put Hu (by omega)) (fun x hx=>Nk Hu hx) (AwK hid hg.2.2.2.2.2.2.2)
        · exact hg
      · exact hg
    split
    · exact hg
    rename_i n hf
    have hn:=List.mem_of_find?_eq_some hf
    have hno:=hg.2.2.2.2.2.1 n hn
    have hA:=ha.aE n hn
    have l2:=hA.lP
    split
    · exact ABx hg (by omega)
    split
    · refine AzF hg (by omega) hn (ok_prE (x:=⟨c.name,c.v⟩) hno ⟨c5,c6⟩ (ln_delS (by omega)) (fun h=>?_) (fun y hy=>.inr (SC hy)))
      rw[show n.props=[] from hno.2.2.2.2.2.1 h];rfl
    split
    · exact AzF hg (by omega) hn (ok_prE (x:=⟨c.name,c.v⟩) hno ⟨c5,c6⟩ (ln_putS (by omega)) (fun h=>Bool.noConfusion h) (fun y hy=>Nk G7 hy))
    · exact hg
end AI
end Go.Proofs.YtnbibfalljlmfaaGreatDoor
