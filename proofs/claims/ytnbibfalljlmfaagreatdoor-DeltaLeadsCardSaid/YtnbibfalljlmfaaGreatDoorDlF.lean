/- Values of graphs that changes lead to; the changes of a script as arguments: plain. -/
import Derived.Test.YtnbibfalljlmfaaGreatDoorDlE
import Derived.Test.YtnbibfalljlmfaaGreatDoorDeF
set_option linter.unusedVariables false
set_option maxRecDepth 4000
namespace Go.Proofs.YtnbibfalljlmfaaGreatDoor
namespace AI
def Amy (Q:GV→Prop) (g:GG):Prop:=(∀ n∈g.nodes,∀p∈n.props,Q p.v)∧∀e∈g.edges,∀p∈e.props,Q p.v
theorem Amy.Ap7 {Q:GV→Prop} {g:GG} (h:Amy Q g) {n:GN} (hn:∀p∈n.props,Q p.v):Amy Q {g with nodes:=Tc ltI GN.id n g.nodes}:=
  ⟨fun m hm=>by
    rcases Nk Hu hm with rfl|hm
    · exact hn
    · exact h.1 m hm,h.2⟩
theorem Amy.AxA {Q:GV→Prop} {g:GG} (h:Amy Q g) {n:GE} (hn:∀p∈n.props,Q p.v):Amy Q {g with edges:=Tc ltI GE.id n g.edges}:=
  ⟨h.1,fun m hm=>by
    rcases Nk Hu hm with rfl|hm
    · exact hn
    · exact h.2 m hm⟩
theorem Amy.step {Q:GV→Prop} {g:GG} {c:GC} (h:Amy Q g) (hc:Q c.v):Amy Q (stepG g c).2:=by
  unfold stepG
  split
  · exact h
  split
  · unfold AhO
    split
    · split
      · exact h
      split
      · refine⟨fun m hm=>?_,h.2⟩
        rcases Nk Hu hm with rfl|hm
        · intro p hp;cases hp
        · exact h.1 m hm
      · exact h
    split
    · exact h
    rename_i n hf
    have hn:=h.1 n (List.mem_of_find?_eq_some hf)
    split
    · split
      · exact h
      · exact⟨fun m hm=>h.1 m (SC hm),h.2⟩
    split
    · split
      · exact h
      split
      · exact h.Ap7 hn
      · exact h
    split
    · split
      · exact h.Ap7 hn
      · exact h
    split
    · exact h.Ap7 fun p hp=>hn p (SC hp)
    split
    · refine h.Ap7 fun p hp=>?_
      rcases Nk G7 hp with rfl|hp
      · exact hc
      · exact hn p hp
    · exact h
  · unfold AmZ
    split
    · split
      · exact h
      split
      · split
        · refine⟨h.1,fun m hm=>?_⟩
          rcases Nk Hu hm with rfl|hm
          · intro p hp;cases hp
          · exact h.2 m hm
        · exact h
      · exact h
    split
    · exact h
    rename_i n hf
    have hn:=h.2 n (List.mem_of_find?_eq_some hf)
    split
    · exact⟨h.1,fun m hm=>h.2 m (SC hm)⟩
    split
    · exact h.AxA fun p hp=>hn p (SC hp)
    split
    · refine h.AxA fun p hp=>?_
      rcases Nk G7 hp with rfl|hp
      · exact hc
      · exact hn p hp
    · exact h
theorem Amy.run {Q:GV→Prop} {L:List GC}:∀{g h:GG},Amy Q g→(∀ c∈L,Q c.v)→AaK g L=some h→Amy Q h:=by
  induction L with
  |nil=>intro g h k _ e;cases e;exact k
  | cons c L ih=>
    intro g h k hc e
    rw[AaK]at e
    split at e
    · exact ih (k.step (hc c (by simp))) (fun x hx=>hc x (by simp[hx])) e
    · cases e
theorem AAy {g:GG} (a:Ajy g) (v:Amy Ac1 g):AjE g:=
  ⟨by have:=a.lN;omega,by have:=a.lE;omega,fun n hn=>⟨by have:=(a.aN n hn).lL;omega,by have:=(a.aN n hn).lP;omega,v.1 n hn⟩,fun e he=>⟨by have:=(a.aE e he).lP;omega,v.2 e he⟩⟩
theorem ALb {g:GG} (h:AjE g):Amy Ac1 g:=⟨fun n hn=>(h.2.2.1 n hn).2.2,fun e he=>(h.2.2.2 e he).2⟩
theorem AuM {op z:Int} {x:List UInt8} (h0:I64 op) (h1:I64 z) (h2:Ln x):(mkC op z x).ok:=⟨h0,h1,by unfold I64 mkC;dsimp only;omega,by unfold I64 mkC;dsimp only;omega,h2,Ayj.1⟩
theorem AtQ (n:Int) (h:0≤n∧n≤10):I64 n:=by unfold I64;omega
theorem Ai5 {op z:Int} {l m:List (List UInt8)} (h0:I64 op) (h1:I64 z) (h2:∀x∈l,Ln x):∀c∈Gf op z l m,c.ok:=fun c hc=>by
  obtain⟨x,hx,rfl⟩:=List.mem_map.1 hc
  exact AuM h0 h1 (h2 x (List.mem_filter.1 hx).1)
theorem Ap8 {op z:Int} {a b:List GP} (h0:I64 op) (h1:I64 z) (h2:∀p∈b,p.ok):∀c∈valuesL op z a b,c.ok:=fun c hc=>by
  obtain⟨x,hx,rfl⟩:=List.mem_map.1 hc
  have:=h2 x (List.mem_filter.1 hx).1
  exact⟨h0,h1,by unfold I64;dsimp only;omega,by unfold I64;dsimp only;omega,this.1,this.2⟩
theorem Ayk {P:List GP} (h:∀p∈P,p.ok):∀x∈keysOf P,Ln x:=fun x hx=>by
  obtain⟨p,hp,rfl⟩:=List.mem_map.1 hx
  exact(h p hp).1
theorem AyX {a b:GG} (ha:a.ok) (hb:b.ok):∀c∈O1 a b,c.ok:=fun c hc=>by
  obtain⟨-,-,a3,-,-,a6,-⟩:=ha
  obtain⟨-,-,b3,-,-,b6,-⟩:=hb
  have l0:Ln ([]:List UInt8):=by simp[Ln]
  rcases List.mem_append.1 hc with h|h
  · rcases List.mem_append.1 h with h|h
    · obtain⟨x,hx,rfl⟩:=List.mem_map.1 h
      exact AuM (AtQ 7 (by omega)) (a6 x (List.mem_filter.1 hx).1).1 l0
    · obtain⟨x,hx,rfl⟩:=List.mem_map.1 h
      exact AuM (AtQ 2 (by omega)) (a3 x (List.mem_filter.1 hx).1).1 l0
  rcases List.mem_append.1 h with h|h
  · rcases List.mem_append.1 h with h|h
    · obtain⟨x,hx,rfl⟩:=List.mem_map.1 h
      exact AuM (AtQ 1 (by omega)) (b3 x (List.mem_filter.1 hx).1).1 l0
    · obtain⟨n,hn,h⟩:=List.mem_flatMap.1 h
      have ho:=b3 n hn
      have hw:(∀ x∈(Vx a.nodes n).labels,Ln x)∧∀p∈(Vx a.nodes n).props,p.ok:=by
        unfold Vx
        cases hq:a.nodes.find? (isN n.id)with
        |none=>exact⟨fun x hx=>(by cases hx),fun x hx=>by cases hx⟩
        | some w=>
          have hw:=a3 w (List.mem_of_find?_eq_some hq)
          exact⟨hw.2.2.2.1,hw.2.2.2.2.2.2⟩
      rcases List.mem_append.1 h with h|h
      · exact Ai5 (AtQ 4 (by omega)) ho.1 hw.1 c h
      rcases List.mem_append.1 h with h|h
      · exact Ai5 (AtQ 5 (by omega)) ho.1 (Ayk hw.2) c h
      rcases List.mem_append.1 h with h|h
      · exact Ai5 (AtQ 3 (by omega)) ho.1 ho.2.2.2.1 c h
      · exact Ap8 (AtQ 5 (by omega)) ho.1 ho.2.2.2.2.2.2 c h
  · rcases List.mem_append.1 h with h|h
    · obtain⟨x,hx,rfl⟩:=List.mem_map.1 h
      have ho:=b6 x (List.mem_filter.1 hx).1
      exact⟨AtQ 6 (by omega),ho.1,ho.2.1,ho.2.2.1,ho.2.2.2.1,Ayj.1⟩
    · obtain⟨n,hn,h⟩:=List.mem_flatMap.1 h
      have ho:=b6 n hn
      have hw:∀p∈AfN a.edges n,p.ok:=by
        unfold AfN
        cases hq:a.edges.find? (isE n.id)with
        |none=>exact fun x hx=>by cases hx
        | some w=>
          show∀p∈(if Lr n w=true then[]else w.props),p.ok
          split
          · exact fun x hx=>by cases hx
          · exact(a6 w (List.mem_of_find?_eq_some hq)).2.2.2.2.2.2
      rcases List.mem_append.1 h with h|h
      · exact Ai5 (AtQ 8 (by omega)) ho.1 (Ayk hw) c h
      · exact Ap8 (AtQ 8 (by omega)) ho.1 ho.2.2.2.2.2.2 c h
theorem Ajd {op z:Int} {l m:List (List UInt8)}:(Gf op z l m).length≤l.length:=by
  unfold Gf;rw[List.length_map];exact List.length_filter_le _ _
theorem Ap9 {op z:Int} {a b:List GP}:(valuesL op z a b).length≤b.length:=by
  unfold valuesL;rw[List.length_map];exact List.length_filter_le _ _
theorem Aqa {a b:GG} (ha:VG a) (hb:VG b):(O1 a b).length<2^62:=by
  have h1:=ha.ask.lN
  have h2:=ha.ask.lE
  have h3:=hb.ask.lN
  have h4:=hb.ask.lE
  have f1:=List.length_filter_le (JQ b.edges) a.edges
  have f2:=List.length_filter_le (Qx b.nodes) a.nodes
  have f3:=List.length_filter_le (Qx a.nodes) b.nodes
  have f4:=List.length_filter_le (JQ a.edges) b.edges
  have kl:∀P:List GP,(keysOf P).length=P.length:=fun P=>by unfold keysOf;rw[List.length_map]
  have f5:(b.nodes.flatMap (Aae a.nodes)).length≤48*b.nodes.length:=Ayl fun n hn=>by
    have hn:=(hb.n n hn).a
    have hw:(Vx a.nodes n).labels.length≤8∧(Vx a.nodes n).props.length≤16:=by
      unfold Vx
      cases hq:a.nodes.find? (isN n.id)with
      |none=>exact⟨by simp[N0],by simp[N0]⟩
      |some w=>exact⟨(ha.n w (List.mem_of_find?_eq_some hq)).a.lL,(ha.n w (List.mem_of_find?_eq_some hq)).a.lP⟩
    have g1:=Ajd (op:=4) (z:=n.id) (l:=(Vx a.nodes n).labels) (m:=n.labels)
    have g2:=Ajd (op:=5) (z:=n.id) (l:=keysOf (Vx a.nodes n).props) (m:=keysOf n.props)
    have g3:=Ajd (op:=3) (z:=n.id) (l:=n.labels) (m:=(Vx a.nodes n).labels)
    have g4:=Ap9 (op:=5) (z:=n.id) (a:=(Vx a.nodes n).props) (b:=n.props)
    rw[kl]at g2
    have:=hn.lL
    have:=hn.lP
    unfold Aae
    simp only[List.length_append]
    omega
  have f6:(b.edges.flatMap (O8 a.edges)).length≤32*b.edges.length:=Ayl fun n hn=>by
    have hn:=(hb.e n hn).a
    have hw:(AfN a.edges n).length≤16:=by
      unfold AfN
      cases hq:a.edges.find? (isE n.id)with
      |none=>simp
      | some w=>
        show(if Lr n w=true then[]else w.props).length≤16
        split
        · simp
        · exact(ha.e w (List.mem_of_find?_eq_some hq)).a.lP
    have g2:=Ajd (op:=8) (z:=n.id) (l:=keysOf (AfN a.edges n)) (m:=keysOf n.props)
    have g4:=Ap9 (op:=8) (z:=n.id) (a:=AfN a.edges n) (b:=n.props)
    rw[kl]at g2
    have:=hn.lP
    unfold O8
    simp only[List.length_append]
    omega
  unfold O1 YI AhK Alh
  simp only[List.length_append,List.length_map]
  omega
end AI
end Go.Proofs.YtnbibfalljlmfaaGreatDoor
