/- Steps at which a walk through slices.Delete takes a run from outside. slices.Insert and slices.Delete at api.Node: the walks. slices.Insert and slices.Delete at api.Edge: the walks. slices.Insert and slices.Delete at api.Prop: the walks. slices.Insert and slices.Delete at string: the walks. -/
import Derived.Test.YtceiccjppfapjaaGreatDoorVInG
import Derived.Test.YtceiccjppfapjaaGreatDoorChecked
import Derived.Deep.RegionLaw
set_option linter.unusedVariables false
set_option maxRecDepth 4000
namespace Go.Proofs.YtceiccjppfapjaaGreatDoor
namespace AI
section
open Go.RowKit Go.Lib
theorem Gy {P:Program} {ops:Array Oper} {o:Oper} {a:Act} {w:World} {K:Act→World→Prop} {Q:Exit→Act→World→Prop} {E:Prop}
 (hg:o.guard=none) (d x:Operand) (dT sT:TypeId) (hop:o.op=Op.call {callee:=Callee.builtin Builtin.append,args:=#[d,x],argTypes:=#[dT,sT]})
 (v u:Value) (hd:a.eval d=v) (hx:a.eval x=u) {v':Value} {w':World} (hr:(Builtin.append_ #[dT,sT] o.type #[v,u]).run P w=.ok v' w') (hK:K (a.put o.dst v') w'):
 if Region.wanted o (yielded ops a.tmps)=true then Oper.wp P o a w K Q else E:=by
 have hw:Region.wanted o (yielded ops a.tmps)=true:=by simp[Region.wanted,hg]
 rw[if_pos hw]
 unfold Oper.wp
 simp[execOp,hop,resolve,invoke,builtin,hd,hx,hr,Result.andThen]
 exact hK
theorem Xj {P:Program} (w:World) {o:Oper} {a:Act} {K:Act→World→Prop} {Q:Exit→Act→World→Prop} (d:Operand) (t:TypeId)
 (ho:o.op=.call {callee:=.builtin .clear,args:=#[d],argTypes:=#[t]}) (v:Value) (hd:a.eval d=v) {v':Value} {w':World}
 (hr:(Builtin.clear_ #[t] o.type #[v]).run P w=.ok v' w') (h:K (a.put o.dst v') w'):o.wp P a w K Q:=by
 unfold Oper.wp execOp
 simp only[ho,resolve,invoke,builtin,Sem.run_bind,Sem.run_pure,Result.andThen_ok,List.map_toArray,List.map_cons,List.map_nil,hd,hr]
 exact h
theorem F5 {P:Program} (w:World) {ops:Array Oper} {rest:List Oper} {o:Oper} {a:Act} {Q:Exit→Act→World→Prop} (hgd:o.guard=none) (d:Operand) (t:TypeId)
 (ho:o.op=.call {callee:=.builtin .clear,args:=#[d],argTypes:=#[t]}) (v:Value) (hd:a.eval d=v) {v':Value} {w':World}
 (hr:(Builtin.clear_ #[t] o.type #[v]).run P w=.ok v' w') (h:wpList P ops Q rest (a.put o.dst v') w'):wpList P ops Q (o::rest) a w:=
 wpList_plain hgd fun _ hK=>Xj w d t ho v hd hr (hK _ _ h)
end
section
set_option linter.unusedSimpArgs false
open Go.RowKit Go.Lib
theorem Aip:QL Tryz.prog 22 63 3 56 (.agg #[.int .i64 0,.slice none 0 0,.slice none 0 0]) (.agg [.int .i64 0,.sl false [],.sl false []]) where
 pos:=by omega
 b0:=by omega
 hu:=Tryz.underlying22
 inf:=by kernel_rfl
 zt:=by kernel_rfl
 zs:=rfl
 z1:=by decide
set_option maxHeartbeats 4000000 in
set_option maxRecDepth 1000000 in
theorem AqM:Ab5 Tryz.prog 185 22 3 3 245 where
 fn:=⟨_,Tryz.func185,rfl,by decide⟩
 iu:=Tryz.underlying3
 fin:=by
  intro base n c vc va w w1 x hnil hnc hrun
  have hu:=Tryz.underlying22
  have hz1:¬((1:Int)=0):=by omega
  cases base with
  |none=>
   have h0:=hnil rfl
   subst h0
   go_enter Tryz.func185,Tryz.ntmps185
   go_wp2_with (at_builtin;refine Lib.wpList_append_run _ rfl _ _ _ _ rfl _ _ rfl rfl _ _ (hrun _) ?_)
   all_goals (go_ret;exact⟨rfl,rfl⟩)
  |some a=>
   obtain⟨ab,ao,asp⟩:=a
   go_enter Tryz.func185,Tryz.ntmps185
   go_wp2_with (at_builtin;refine Lib.wpList_append_run _ rfl _ _ _ _ rfl _ _ rfl rfl _ _ (hrun _) ?_)
   all_goals (go_ret;exact⟨rfl,rfl⟩)
 grow:=by
  intro b n c i vc G va w w1 w2 w3 hi hnc hroom hGn hG63 Ag7 hrz hcpA hcpB
  have hz1:¬((1:Int)=0):=by omega
  have hz2:¬((i:Int)=(n:Int)):=by omega
  have hz3:(c:Int)<(n:Int)+1:=by omega
  have hGi:¬(G=i):=by omega
  have Ank:¬(G=i+1):=by omega
  have hci:¬(c=i):=by omega
  have hw1:IntKind.i64.wrap ((i:Int)+1)=(i:Int)+1:=by rw[IntKind.wrap_i64];omega
  have hw2:IntKind.i64.wrap ((n:Int)+1)=(n:Int)+1:=by rw[IntKind.wrap_i64];omega
  have hw3:IntKind.i64.wrap ((n:Int)+1-(i:Int))=(n:Int)+1-(i:Int):=by rw[IntKind.wrap_i64];omega
  have hb1:(0:Int)≤(i:Int)+1:=by omega
  have hin:i≤n:=by omega
  have htn:((i:Int)+1).toNat=i+1:=by omega
  have hb3:(i:Int)≤(n:Int):=by omega
  have hb4:(i:Int)+1≤(n:Int)+1:=by omega
  have hic:i≤c:=by omega
  go_enter Tryz.func185,Tryz.ntmps185
  go_wp2_with (first
   |(at_builtin;refine Lib.wpList_append_run _ rfl _ _ _ _ rfl _ _ rfl rfl _ _ (hrz _) ?_)
   |(refine wpList_copy_runI _ rfl _ _ 22 22 rfl _ _ rfl rfl (hcpA _ _) ?_))
  go_region_law (refine step_copy_runI rfl _ _ 22 22 rfl (.slice (some ⟨w.heap.size,(i+1)*3,none⟩) (n+1-(i+1)) (G-(i+1))) (.slice (some ⟨b,i*3,none⟩) (n-i) (c-i)) (by simp[Act.eval,Act.put]) (by simp[Act.eval,Act.put]) (hcpB _ _ _) ?_)
  go_wp2
  go_ret
  exact⟨rfl,rfl⟩
 apart:=by
  intro b o vc lb cb va cur v t1 w hne hb hv hpos
  obtain⟨i0,hi0,hz0,hzs,hzb⟩:=info_parts Aip.inf
  obtain⟨tA,kA,k1,k2⟩:=QJ hv
  rw[run_callFunc_extern Tryz.func245 (by kernel_rfl) (by kernel_rfl) (by kernel_rfl) (e:=Extern.SlicesOverlaps.overlaps #[22,22] #[4]) (by kernel_rfl),
   Gv w 22 4 63 Tryz.underlying22 3 (fun w=>by simp[sizeOf,typeInfo,hi0,hzs]) va ⟨b,o,none⟩ 1 vc lb cb hne tA t1 kA cur.size k1 (by simp[World.shape?,hb]) k2 (by simp[World.frozen?,hb]) (by simp[World.frozen?,hb])]
  rfl
 shift:=by
  intro b n c i vc va w w2 w3 hi hroom hc63 hov hcpA hcpB
  have hu:=Tryz.underlying22
  have hz1:¬((1:Int)=0):=by omega
  have hz2:¬((i:Int)=(n:Int)):=by omega
  have hz3:¬((c:Int)<(n:Int)+1):=by omega
  have hw1:IntKind.i64.wrap ((i:Int)+1)=(i:Int)+1:=by rw[IntKind.wrap_i64];omega
  have hw2:IntKind.i64.wrap ((n:Int)+1)=(n:Int)+1:=by rw[IntKind.wrap_i64];omega
  have hb1:(0:Int)≤(i:Int)+1:=by omega
  have hb0:(0:Int)≤(n:Int)+1:=by omega
  have hin:i≤n:=by omega
  have htn:((i:Int)+1).toNat=i+1:=by omega
  have Anl:((n:Int)+1).toNat=n+1:=by omega
  have hb3:(i:Int)≤(n:Int)+1:=by omega
  have hb4:(i:Int)+1≤(n:Int)+1:=by omega
  have hb5:(n:Int)+1≤(c:Int):=by omega
  have hci:¬(c=i):=by omega
  have Anm:¬(c=i+1):=by omega
  have hic:i≤c:=by omega
  go_enter Tryz.func185,Tryz.ntmps185
  go_wp2_with (simp only[hov])
  go_region_law (refine step_copy_runI rfl _ _ 22 22 rfl (.slice (some ⟨b,(i+1)*3,none⟩) (n+1-(i+1)) (c-(i+1))) (.slice (some ⟨b,i*3,none⟩) (n+1-i) (c-i)) (by simp[Act.eval,Act.put]) (by simp[Act.eval,Act.put]) (hcpA _ _ _) ?_)
  go_wp2_with (refine wpList_copy_runI _ rfl _ _ 22 22 rfl _ _ rfl rfl (hcpB _ _) ?_)
  go_ret
  exact⟨rfl,rfl⟩
set_option maxHeartbeats 4000000 in
set_option maxRecDepth 1000000 in
theorem AqN:AeG Tryz.prog 186 22 3 where
 fn:=⟨_,Tryz.func186,rfl,by decide⟩
 walk:=by
  intro b n c i j A w w2 w3 hij hj hnc hc63 hA hap hcl
  have hu:=Tryz.underlying22
  have hic:i≤c:=by omega
  have hjc:j≤c:=by omega
  have Ann:¬(c=i+(n-j)):=by omega
  have hle1:i+(n-j)≤n:=by omega
  have hne:¬((i:Int)=(j:Int)):=by omega
  go_enter Tryz.func186,Tryz.ntmps186
  go_wp2_with fail
  go_region_law (refine Gy rfl _ _ 22 22 rfl (.slice (some ⟨b,0,none⟩) i c) (.slice (some A) (n-j) (c-j)) (by simp[Act.eval,Act.put]) (by simp[Act.eval,Act.put]) (hap _) ?_)
  go_wp2_with (refine F5 _ rfl _ 22 rfl _ rfl (hcl _) ?_)
  go_ret
  exact⟨rfl,rfl⟩
abbrev Aik:=Gw 3 56
abbrev Ail:=delSpec 3
theorem AkA:Bj Tryz.prog fun f' args s=>if f'=185 then Aik args s else none:=UE Aip AqM
theorem AkB:Bj Tryz.prog fun f' args s=>if f'=186 then Ail args s else none:=UF Aip AqN
end
section
set_option linter.unusedSimpArgs false
open Go.RowKit Go.Lib
theorem Aia:QL Tryz.prog 23 95 5 64 (.agg #[.int .i64 0,.int .i64 0,.int .i64 0,.string ⟨#[]⟩,.slice none 0 0]) (.agg [.int .i64 0,.int .i64 0,.int .i64 0,.str [],.sl false []]) where
 pos:=by omega
 b0:=by omega
 hu:=Tryz.underlying23
 inf:=by kernel_rfl
 zt:=by kernel_rfl
 zs:=rfl
 z1:=by decide
set_option maxHeartbeats 4000000 in
set_option maxRecDepth 1000000 in
theorem AqG:Ab5 Tryz.prog 192 23 3 5 257 where
 fn:=⟨_,Tryz.func192,rfl,by decide⟩
 iu:=Tryz.underlying3
 fin:=by
  intro base n c vc va w w1 x hnil hnc hrun
  have hu:=Tryz.underlying23
  have hz1:¬((1:Int)=0):=by omega
  cases base with
  |none=>
   have h0:=hnil rfl
   subst h0
   go_enter Tryz.func192,Tryz.ntmps192
   go_wp2_with (at_builtin;refine Lib.wpList_append_run _ rfl _ _ _ _ rfl _ _ rfl rfl _ _ (hrun _) ?_)
   all_goals (go_ret;exact⟨rfl,rfl⟩)
  |some a=>
   obtain⟨ab,ao,asp⟩:=a
   go_enter Tryz.func192,Tryz.ntmps192
   go_wp2_with (at_builtin;refine Lib.wpList_append_run _ rfl _ _ _ _ rfl _ _ rfl rfl _ _ (hrun _) ?_)
   all_goals (go_ret;exact⟨rfl,rfl⟩)
 grow:=by
  intro b n c i vc G va w w1 w2 w3 hi hnc hroom hGn hG63 Ag7 hrz hcpA hcpB
  have hz1:¬((1:Int)=0):=by omega
  have hz2:¬((i:Int)=(n:Int)):=by omega
  have hz3:(c:Int)<(n:Int)+1:=by omega
  have hGi:¬(G=i):=by omega
  have Ank:¬(G=i+1):=by omega
  have hci:¬(c=i):=by omega
  have hw1:IntKind.i64.wrap ((i:Int)+1)=(i:Int)+1:=by rw[IntKind.wrap_i64];omega
  have hw2:IntKind.i64.wrap ((n:Int)+1)=(n:Int)+1:=by rw[IntKind.wrap_i64];omega
  have hw3:IntKind.i64.wrap ((n:Int)+1-(i:Int))=(n:Int)+1-(i:Int):=by rw[IntKind.wrap_i64];omega
  have hb1:(0:Int)≤(i:Int)+1:=by omega
  have hin:i≤n:=by omega
  have htn:((i:Int)+1).toNat=i+1:=by omega
  have hb3:(i:Int)≤(n:Int):=by omega
  have hb4:(i:Int)+1≤(n:Int)+1:=by omega
  have hic:i≤c:=by omega
  go_enter Tryz.func192,Tryz.ntmps192
  go_wp2_with (first
   |(at_builtin;refine Lib.wpList_append_run _ rfl _ _ _ _ rfl _ _ rfl rfl _ _ (hrz _) ?_)
   |(refine wpList_copy_runI _ rfl _ _ 23 23 rfl _ _ rfl rfl (hcpA _ _) ?_))
  go_region_law (refine step_copy_runI rfl _ _ 23 23 rfl (.slice (some ⟨w.heap.size,(i+1)*5,none⟩) (n+1-(i+1)) (G-(i+1))) (.slice (some ⟨b,i*5,none⟩) (n-i) (c-i)) (by simp[Act.eval,Act.put]) (by simp[Act.eval,Act.put]) (hcpB _ _ _) ?_)
  go_wp2
  go_ret
  exact⟨rfl,rfl⟩
 apart:=by
  intro b o vc lb cb va cur v t1 w hne hb hv hpos
  obtain⟨i0,hi0,hz0,hzs,hzb⟩:=info_parts Aia.inf
  obtain⟨tA,kA,k1,k2⟩:=QJ hv
  rw[run_callFunc_extern Tryz.func257 (by kernel_rfl) (by kernel_rfl) (by kernel_rfl) (e:=Extern.SlicesOverlaps.overlaps #[23,23] #[4]) (by kernel_rfl),
   Gv w 23 4 95 Tryz.underlying23 5 (fun w=>by simp[sizeOf,typeInfo,hi0,hzs]) va ⟨b,o,none⟩ 1 vc lb cb hne tA t1 kA cur.size k1 (by simp[World.shape?,hb]) k2 (by simp[World.frozen?,hb]) (by simp[World.frozen?,hb])]
  rfl
 shift:=by
  intro b n c i vc va w w2 w3 hi hroom hc63 hov hcpA hcpB
  have hu:=Tryz.underlying23
  have hz1:¬((1:Int)=0):=by omega
  have hz2:¬((i:Int)=(n:Int)):=by omega
  have hz3:¬((c:Int)<(n:Int)+1):=by omega
  have hw1:IntKind.i64.wrap ((i:Int)+1)=(i:Int)+1:=by rw[IntKind.wrap_i64];omega
  have hw2:IntKind.i64.wrap ((n:Int)+1)=(n:Int)+1:=by rw[IntKind.wrap_i64];omega
  have hb1:(0:Int)≤(i:Int)+1:=by omega
  have hb0:(0:Int)≤(n:Int)+1:=by omega
  have hin:i≤n:=by omega
  have htn:((i:Int)+1).toNat=i+1:=by omega
  have Anl:((n:Int)+1).toNat=n+1:=by omega
  have hb3:(i:Int)≤(n:Int)+1:=by omega
  have hb4:(i:Int)+1≤(n:Int)+1:=by omega
  have hb5:(n:Int)+1≤(c:Int):=by omega
  have hci:¬(c=i):=by omega
  have Anm:¬(c=i+1):=by omega
  have hic:i≤c:=by omega
  go_enter Tryz.func192,Tryz.ntmps192
  go_wp2_with (simp only[hov])
  go_region_law (refine step_copy_runI rfl _ _ 23 23 rfl (.slice (some ⟨b,(i+1)*5,none⟩) (n+1-(i+1)) (c-(i+1))) (.slice (some ⟨b,i*5,none⟩) (n+1-i) (c-i)) (by simp[Act.eval,Act.put]) (by simp[Act.eval,Act.put]) (hcpA _ _ _) ?_)
  go_wp2_with (refine wpList_copy_runI _ rfl _ _ 23 23 rfl _ _ rfl rfl (hcpB _ _) ?_)
  go_ret
  exact⟨rfl,rfl⟩
set_option maxHeartbeats 4000000 in
set_option maxRecDepth 1000000 in
theorem AqH:AeG Tryz.prog 193 23 5 where
 fn:=⟨_,Tryz.func193,rfl,by decide⟩
 walk:=by
  intro b n c i j A w w2 w3 hij hj hnc hc63 hA hap hcl
  have hu:=Tryz.underlying23
  have hic:i≤c:=by omega
  have hjc:j≤c:=by omega
  have Ann:¬(c=i+(n-j)):=by omega
  have hle1:i+(n-j)≤n:=by omega
  have hne:¬((i:Int)=(j:Int)):=by omega
  go_enter Tryz.func193,Tryz.ntmps193
  go_wp2_with fail
  go_region_law (refine Gy rfl _ _ 23 23 rfl (.slice (some ⟨b,0,none⟩) i c) (.slice (some A) (n-j) (c-j)) (by simp[Act.eval,Act.put]) (by simp[Act.eval,Act.put]) (hap _) ?_)
  go_wp2_with (refine F5 _ rfl _ 23 rfl _ rfl (hcl _) ?_)
  go_ret
  exact⟨rfl,rfl⟩
abbrev Aib:=Gw 5 64
abbrev Aic:=delSpec 5
theorem Akv:Bj Tryz.prog fun f' args s=>if f'=192 then Aib args s else none:=UE Aia AqG
theorem Akw:Bj Tryz.prog fun f' args s=>if f'=193 then Aic args s else none:=UF Aia AqH
end
section
set_option linter.unusedSimpArgs false
open Go.RowKit Go.Lib
theorem AiE:QL Tryz.prog 61 104 6 80 (.agg #[.string ⟨#[]⟩,.int .i64 0,.int .i64 0,.int .i64 0,.string ⟨#[]⟩,.slice none 0 0]) (.agg [.str [],.int .i64 0,.int .i64 0,.int .i64 0,.str [],.sl false []]) where
 pos:=by omega
 b0:=by omega
 hu:=Tryz.underlying61
 inf:=by kernel_rfl
 zt:=by kernel_rfl
 zs:=rfl
 z1:=by decide
set_option maxHeartbeats 4000000 in
set_option maxRecDepth 1000000 in
theorem AqV:Ab5 Tryz.prog 254 61 3 6 312 where
 fn:=⟨_,Tryz.func254,rfl,by decide⟩
 iu:=Tryz.underlying3
 fin:=by
  intro base n c vc va w w1 x hnil hnc hrun
  have hu:=Tryz.underlying61
  have hz1:¬((1:Int)=0):=by omega
  cases base with
  |none=>
   have h0:=hnil rfl
   subst h0
   go_enter Tryz.func254,Tryz.ntmps254
   go_wp2_with (at_builtin;refine Lib.wpList_append_run _ rfl _ _ _ _ rfl _ _ rfl rfl _ _ (hrun _) ?_)
   all_goals (go_ret;exact⟨rfl,rfl⟩)
  |some a=>
   obtain⟨ab,ao,asp⟩:=a
   go_enter Tryz.func254,Tryz.ntmps254
   go_wp2_with (at_builtin;refine Lib.wpList_append_run _ rfl _ _ _ _ rfl _ _ rfl rfl _ _ (hrun _) ?_)
   all_goals (go_ret;exact⟨rfl,rfl⟩)
 grow:=by
  intro b n c i vc G va w w1 w2 w3 hi hnc hroom hGn hG63 Ag7 hrz hcpA hcpB
  have hz1:¬((1:Int)=0):=by omega
  have hz2:¬((i:Int)=(n:Int)):=by omega
  have hz3:(c:Int)<(n:Int)+1:=by omega
  have hGi:¬(G=i):=by omega
  have Ank:¬(G=i+1):=by omega
  have hci:¬(c=i):=by omega
  have hw1:IntKind.i64.wrap ((i:Int)+1)=(i:Int)+1:=by rw[IntKind.wrap_i64];omega
  have hw2:IntKind.i64.wrap ((n:Int)+1)=(n:Int)+1:=by rw[IntKind.wrap_i64];omega
  have hw3:IntKind.i64.wrap ((n:Int)+1-(i:Int))=(n:Int)+1-(i:Int):=by rw[IntKind.wrap_i64];omega
  have hb1:(0:Int)≤(i:Int)+1:=by omega
  have hin:i≤n:=by omega
  have htn:((i:Int)+1).toNat=i+1:=by omega
  have hb3:(i:Int)≤(n:Int):=by omega
  have hb4:(i:Int)+1≤(n:Int)+1:=by omega
  have hic:i≤c:=by omega
  go_enter Tryz.func254,Tryz.ntmps254
  go_wp2_with (first
   |(at_builtin;refine Lib.wpList_append_run _ rfl _ _ _ _ rfl _ _ rfl rfl _ _ (hrz _) ?_)
   |(refine wpList_copy_runI _ rfl _ _ 61 61 rfl _ _ rfl rfl (hcpA _ _) ?_))
  go_region_law (refine step_copy_runI rfl _ _ 61 61 rfl (.slice (some ⟨w.heap.size,(i+1)*6,none⟩) (n+1-(i+1)) (G-(i+1))) (.slice (some ⟨b,i*6,none⟩) (n-i) (c-i)) (by simp[Act.eval,Act.put]) (by simp[Act.eval,Act.put]) (hcpB _ _ _) ?_)
  go_wp2
  go_ret
  exact⟨rfl,rfl⟩
 apart:=by
  intro b o vc lb cb va cur v t1 w hne hb hv hpos
  obtain⟨i0,hi0,hz0,hzs,hzb⟩:=info_parts AiE.inf
  obtain⟨tA,kA,k1,k2⟩:=QJ hv
  rw[run_callFunc_extern Tryz.func312 (by kernel_rfl) (by kernel_rfl) (by kernel_rfl) (e:=Extern.SlicesOverlaps.overlaps #[61,61] #[4]) (by kernel_rfl),
   Gv w 61 4 104 Tryz.underlying61 6 (fun w=>by simp[sizeOf,typeInfo,hi0,hzs]) va ⟨b,o,none⟩ 1 vc lb cb hne tA t1 kA cur.size k1 (by simp[World.shape?,hb]) k2 (by simp[World.frozen?,hb]) (by simp[World.frozen?,hb])]
  rfl
 shift:=by
  intro b n c i vc va w w2 w3 hi hroom hc63 hov hcpA hcpB
  have hu:=Tryz.underlying61
  have hz1:¬((1:Int)=0):=by omega
  have hz2:¬((i:Int)=(n:Int)):=by omega
  have hz3:¬((c:Int)<(n:Int)+1):=by omega
  have hw1:IntKind.i64.wrap ((i:Int)+1)=(i:Int)+1:=by rw[IntKind.wrap_i64];omega
  have hw2:IntKind.i64.wrap ((n:Int)+1)=(n:Int)+1:=by rw[IntKind.wrap_i64];omega
  have hb1:(0:Int)≤(i:Int)+1:=by omega
  have hb0:(0:Int)≤(n:Int)+1:=by omega
  have hin:i≤n:=by omega
  have htn:((i:Int)+1).toNat=i+1:=by omega
  have Anl:((n:Int)+1).toNat=n+1:=by omega
  have hb3:(i:Int)≤(n:Int)+1:=by omega
  have hb4:(i:Int)+1≤(n:Int)+1:=by omega
  have hb5:(n:Int)+1≤(c:Int):=by omega
  have hci:¬(c=i):=by omega
  have Anm:¬(c=i+1):=by omega
  have hic:i≤c:=by omega
  go_enter Tryz.func254,Tryz.ntmps254
  go_wp2_with (simp only[hov])
  go_region_law (refine step_copy_runI rfl _ _ 61 61 rfl (.slice (some ⟨b,(i+1)*6,none⟩) (n+1-(i+1)) (c-(i+1))) (.slice (some ⟨b,i*6,none⟩) (n+1-i) (c-i)) (by simp[Act.eval,Act.put]) (by simp[Act.eval,Act.put]) (hcpA _ _ _) ?_)
  go_wp2_with (refine wpList_copy_runI _ rfl _ _ 61 61 rfl _ _ rfl rfl (hcpB _ _) ?_)
  go_ret
  exact⟨rfl,rfl⟩
set_option maxHeartbeats 4000000 in
set_option maxRecDepth 1000000 in
theorem AqW:AeG Tryz.prog 253 61 6 where
 fn:=⟨_,Tryz.func253,rfl,by decide⟩
 walk:=by
  intro b n c i j A w w2 w3 hij hj hnc hc63 hA hap hcl
  have hu:=Tryz.underlying61
  have hic:i≤c:=by omega
  have hjc:j≤c:=by omega
  have Ann:¬(c=i+(n-j)):=by omega
  have hle1:i+(n-j)≤n:=by omega
  have hne:¬((i:Int)=(j:Int)):=by omega
  go_enter Tryz.func253,Tryz.ntmps253
  go_wp2_with fail
  go_region_law (refine Gy rfl _ _ 61 61 rfl (.slice (some ⟨b,0,none⟩) i c) (.slice (some A) (n-j) (c-j)) (by simp[Act.eval,Act.put]) (by simp[Act.eval,Act.put]) (hap _) ?_)
  go_wp2_with (refine F5 _ rfl _ 61 rfl _ rfl (hcl _) ?_)
  go_ret
  exact⟨rfl,rfl⟩
abbrev Aim:=Gw 6 80
abbrev Aio:=delSpec 6
theorem AkC:Bj Tryz.prog fun f' args s=>if f'=254 then Aim args s else none:=UE AiE AqV
theorem AkD:Bj Tryz.prog fun f' args s=>if f'=253 then Aio args s else none:=UF AiE AqW
end
section
set_option linter.unusedSimpArgs false
open Go.RowKit Go.Lib
theorem AhS:QL Tryz.prog 60 9 1 16 (.string ⟨#[]⟩) (.str []) where
 pos:=by omega
 b0:=by omega
 hu:=Tryz.underlying60
 inf:=by kernel_rfl
 zt:=by kernel_rfl
 zs:=rfl
 z1:=by decide
set_option maxHeartbeats 4000000 in
set_option maxRecDepth 1000000 in
theorem Aqm:Ab5 Tryz.prog 188 60 3 1 249 where
 fn:=⟨_,Tryz.func188,rfl,by decide⟩
 iu:=Tryz.underlying3
 fin:=by
  intro base n c vc va w w1 x hnil hnc hrun
  have hu:=Tryz.underlying60
  have hz1:¬((1:Int)=0):=by omega
  cases base with
  |none=>
   have h0:=hnil rfl
   subst h0
   go_enter Tryz.func188,Tryz.ntmps188
   go_wp2_with (at_builtin;refine Lib.wpList_append_run _ rfl _ _ _ _ rfl _ _ rfl rfl _ _ (hrun _) ?_)
   all_goals (go_ret;exact⟨rfl,rfl⟩)
  |some a=>
   obtain⟨ab,ao,asp⟩:=a
   go_enter Tryz.func188,Tryz.ntmps188
   go_wp2_with (at_builtin;refine Lib.wpList_append_run _ rfl _ _ _ _ rfl _ _ rfl rfl _ _ (hrun _) ?_)
   all_goals (go_ret;exact⟨rfl,rfl⟩)
 grow:=by
  intro b n c i vc G va w w1 w2 w3 hi hnc hroom hGn hG63 Ag7 hrz hcpA hcpB
  simp only[Nat.mul_one]at hcpA hcpB
  have hz1:¬((1:Int)=0):=by omega
  have hz2:¬((i:Int)=(n:Int)):=by omega
  have hz3:(c:Int)<(n:Int)+1:=by omega
  have hGi:¬(G=i):=by omega
  have Ank:¬(G=i+1):=by omega
  have hci:¬(c=i):=by omega
  have hw1:IntKind.i64.wrap ((i:Int)+1)=(i:Int)+1:=by rw[IntKind.wrap_i64];omega
  have hw2:IntKind.i64.wrap ((n:Int)+1)=(n:Int)+1:=by rw[IntKind.wrap_i64];omega
  have hw3:IntKind.i64.wrap ((n:Int)+1-(i:Int))=(n:Int)+1-(i:Int):=by rw[IntKind.wrap_i64];omega
  have hb1:(0:Int)≤(i:Int)+1:=by omega
  have hin:i≤n:=by omega
  have htn:((i:Int)+1).toNat=i+1:=by omega
  have hb3:(i:Int)≤(n:Int):=by omega
  have hb4:(i:Int)+1≤(n:Int)+1:=by omega
  have hic:i≤c:=by omega
  go_enter Tryz.func188,Tryz.ntmps188
  go_wp2_with (first
   |(at_builtin;refine Lib.wpList_append_run _ rfl _ _ _ _ rfl _ _ rfl rfl _ _ (hrz _) ?_)
   |(refine wpList_copy_runI _ rfl _ _ 60 60 rfl _ _ rfl rfl (hcpA _ _) ?_))
  go_region_law (refine step_copy_runI rfl _ _ 60 60 rfl (.slice (some ⟨w.heap.size,(i+1),none⟩) (n+1-(i+1)) (G-(i+1))) (.slice (some ⟨b,i,none⟩) (n-i) (c-i)) (by simp[Act.eval,Act.put]) (by simp[Act.eval,Act.put]) (hcpB _ _ _) ?_)
  go_wp2
  go_ret
  exact⟨rfl,rfl⟩
 apart:=by
  intro b o vc lb cb va cur v t1 w hne hb hv hpos
  obtain⟨i0,hi0,hz0,hzs,hzb⟩:=info_parts AhS.inf
  obtain⟨tA,kA,k1,k2⟩:=QJ hv
  rw[run_callFunc_extern Tryz.func249 (by kernel_rfl) (by kernel_rfl) (by kernel_rfl) (e:=Extern.SlicesOverlaps.overlaps #[60,60] #[4]) (by kernel_rfl),
   Gv w 60 4 9 Tryz.underlying60 1 (fun w=>by simp[sizeOf,typeInfo,hi0,hzs]) va ⟨b,o,none⟩ 1 vc lb cb hne tA t1 kA cur.size k1 (by simp[World.shape?,hb]) k2 (by simp[World.frozen?,hb]) (by simp[World.frozen?,hb])]
  rfl
 shift:=by
  intro b n c i vc va w w2 w3 hi hroom hc63 hov hcpA hcpB
  simp only[Nat.mul_one]at hov hcpA hcpB
  have hu:=Tryz.underlying60
  have hz1:¬((1:Int)=0):=by omega
  have hz2:¬((i:Int)=(n:Int)):=by omega
  have hz3:¬((c:Int)<(n:Int)+1):=by omega
  have hw1:IntKind.i64.wrap ((i:Int)+1)=(i:Int)+1:=by rw[IntKind.wrap_i64];omega
  have hw2:IntKind.i64.wrap ((n:Int)+1)=(n:Int)+1:=by rw[IntKind.wrap_i64];omega
  have hb1:(0:Int)≤(i:Int)+1:=by omega
  have hb0:(0:Int)≤(n:Int)+1:=by omega
  have hin:i≤n:=by omega
  have htn:((i:Int)+1).toNat=i+1:=by omega
  have Anl:((n:Int)+1).toNat=n+1:=by omega
  have hb3:(i:Int)≤(n:Int)+1:=by omega
  have hb4:(i:Int)+1≤(n:Int)+1:=by omega
  have hb5:(n:Int)+1≤(c:Int):=by omega
  have hci:¬(c=i):=by omega
  have Anm:¬(c=i+1):=by omega
  have hic:i≤c:=by omega
  go_enter Tryz.func188,Tryz.ntmps188
  go_wp2_with (simp only[hov])
  go_region_law (refine step_copy_runI rfl _ _ 60 60 rfl (.slice (some ⟨b,(i+1),none⟩) (n+1-(i+1)) (c-(i+1))) (.slice (some ⟨b,i,none⟩) (n+1-i) (c-i)) (by simp[Act.eval,Act.put]) (by simp[Act.eval,Act.put]) (hcpA _ _ _) ?_)
  go_wp2_with (refine wpList_copy_runI _ rfl _ _ 60 60 rfl _ _ rfl rfl (hcpB _ _) ?_)
  go_ret
  exact⟨rfl,rfl⟩
set_option maxHeartbeats 4000000 in
set_option maxRecDepth 1000000 in
theorem Aqn:AeG Tryz.prog 189 60 1 where
 fn:=⟨_,Tryz.func189,rfl,by decide⟩
 walk:=by
  intro b n c i j A w w2 w3 hij hj hnc hc63 hA hap hcl
  simp only[Nat.mul_one]at hA hcl
  have hu:=Tryz.underlying60
  have hic:i≤c:=by omega
  have hjc:j≤c:=by omega
  have Ann:¬(c=i+(n-j)):=by omega
  have hle1:i+(n-j)≤n:=by omega
  have hne:¬((i:Int)=(j:Int)):=by omega
  go_enter Tryz.func189,Tryz.ntmps189
  go_wp2_with fail
  go_region_law (refine Gy rfl _ _ 60 60 rfl (.slice (some ⟨b,0,none⟩) i c) (.slice (some A) (n-j) (c-j)) (by simp[Act.eval,Act.put]) (by simp[Act.eval,Act.put]) (hap _) ?_)
  go_wp2_with (refine F5 _ rfl _ 60 rfl _ rfl (hcl _) ?_)
  go_ret
  exact⟨rfl,rfl⟩
abbrev AhT:=Gw 1 16
abbrev AhU:=delSpec 1
theorem Aka:Bj Tryz.prog fun f' args s=>if f'=188 then AhT args s else none:=UE AhS Aqm
theorem Akb:Bj Tryz.prog fun f' args s=>if f'=189 then AhU args s else none:=UF AhS Aqn
end
end AI
end Go.Proofs.YtceiccjppfapjaaGreatDoor
