/- Steps at which a walk through slices.Delete takes a run from outside. slices.Insert and slices.Delete at api.Node: the walks. slices.Insert and slices.Delete at api.Edge: the walks. slices.Insert and slices.Delete at api.Prop: the walks. slices.Insert and slices.Delete at string: the walks. -/
import Derived.Test.YtgmgkkbpgndaaaaGreatDoorInG
import Derived.Test.YtgmgkkbpgndaaaaGreatDoorChecked
import Derived.Deep.RegionLaw
set_option linter.unusedVariables false
set_option maxRecDepth 4000
namespace Go.Proofs.YtgmgkkbpgndaaaaGreatDoor
namespace AI
section
open Go.RowKit Go.Lib
theorem step_append_runI {P:Program} {ops:Array Oper} {o:Oper} {a:Act} {w:World} {K:Act→World→Prop} {Q:Exit→Act→World→Prop} {E:Prop}
 (hg:o.guard=none) (d x:Operand) (dT sT:TypeId) (hop:o.op=Op.call {callee:=Callee.builtin Builtin.append,args:=#[d,x],argTypes:=#[dT,sT]})
 (v u:Value) (hd:a.eval d=v) (hx:a.eval x=u) {v':Value} {w':World} (hr:(Builtin.append_ #[dT,sT] o.type #[v,u]).run P w=.ok v' w') (hK:K (a.put o.dst v') w'):
 if Region.wanted o (yielded ops a.tmps)=true then Oper.wp P o a w K Q else E:=by
 have hw:Region.wanted o (yielded ops a.tmps)=true:=by simp[Region.wanted,hg]
 rw[if_pos hw]
 unfold Oper.wp
 simp[execOp,hop,resolve,invoke,builtin,hd,hx,hr,Result.andThen]
 exact hK
theorem wp_clear_runI {P:Program} (w:World) {o:Oper} {a:Act} {K:Act→World→Prop} {Q:Exit→Act→World→Prop} (d:Operand) (t:TypeId)
 (ho:o.op=.call {callee:=.builtin .clear,args:=#[d],argTypes:=#[t]}) (v:Value) (hd:a.eval d=v) {v':Value} {w':World}
 (hr:(Builtin.clear_ #[t] o.type #[v]).run P w=.ok v' w') (h:K (a.put o.dst v') w'):o.wp P a w K Q:=by
 unfold Oper.wp execOp
 simp only[ho,resolve,invoke,builtin,Sem.run_bind,Sem.run_pure,Result.andThen_ok,List.map_toArray,List.map_cons,List.map_nil,hd,hr]
 exact h
theorem wpList_clear_runI {P:Program} (w:World) {ops:Array Oper} {rest:List Oper} {o:Oper} {a:Act} {Q:Exit→Act→World→Prop} (hgd:o.guard=none) (d:Operand) (t:TypeId)
 (ho:o.op=.call {callee:=.builtin .clear,args:=#[d],argTypes:=#[t]}) (v:Value) (hd:a.eval d=v) {v':Value} {w':World}
 (hr:(Builtin.clear_ #[t] o.type #[v]).run P w=.ok v' w') (h:wpList P ops Q rest (a.put o.dst v') w'):wpList P ops Q (o::rest) a w:=
 wpList_plain hgd fun _ hK=>wp_clear_runI w d t ho v hd hr (hK _ _ h)
end
section
set_option linter.unusedSimpArgs false
open Go.RowKit Go.Lib
theorem elemN:ElemT Tryz.prog 27 55 3 56 (.agg #[.int .i64 0,.slice none 0 0,.slice none 0 0]) (.agg [.int .i64 0,.sl false [],.sl false []]) where
 pos:=by omega
 b0:=by omega
 hu:=Tryz.underlying27
 inf:=by kernel_rfl
 zt:=by kernel_rfl
 zs:=rfl
 z1:=by decide
set_option maxHeartbeats 4000000 in
set_option maxRecDepth 1000000 in
theorem insFN:InsF Tryz.prog 128 27 3 3 148 where
 fn:=⟨_,Tryz.func128,rfl,by decide⟩
 iu:=Tryz.underlying3
 fin:=by
  intro base n c vc va w w1 x hnil hnc hrun
  have hu:=Tryz.underlying27
  have hz1:¬((1:Int)=0):=by omega
  cases base with
  |none=>
   have h0:=hnil rfl
   subst h0
   go_enter Tryz.func128,Tryz.ntmps128
   go_wp2_with (at_builtin;refine Lib.wpList_append_run _ rfl _ _ _ _ rfl _ _ rfl rfl _ _ (hrun _) ?_)
   all_goals (go_ret;exact⟨rfl,rfl⟩)
  |some a=>
   obtain⟨ab,ao,asp⟩:=a
   go_enter Tryz.func128,Tryz.ntmps128
   go_wp2_with (at_builtin;refine Lib.wpList_append_run _ rfl _ _ _ _ rfl _ _ rfl rfl _ _ (hrun _) ?_)
   all_goals (go_ret;exact⟨rfl,rfl⟩)
 grow:=by
  intro b n c i vc G va w w1 w2 w3 hi hnc hroom hGn hG63 hn46 hrz hcpA hcpB
  have hz1:¬((1:Int)=0):=by omega
  have hz2:¬((i:Int)=(n:Int)):=by omega
  have hz3:(c:Int)<(n:Int)+1:=by omega
  have hGi:¬(G=i):=by omega
  have hGi1:¬(G=i+1):=by omega
  have hci:¬(c=i):=by omega
  have hw1:IntKind.i64.wrap ((i:Int)+1)=(i:Int)+1:=by rw[IntKind.wrap_i64];omega
  have hw2:IntKind.i64.wrap ((n:Int)+1)=(n:Int)+1:=by rw[IntKind.wrap_i64];omega
  have hw3:IntKind.i64.wrap ((n:Int)+1-(i:Int))=(n:Int)+1-(i:Int):=by rw[IntKind.wrap_i64];omega
  have hb1:(0:Int)≤(i:Int)+1:=by omega
  have hin:i≤n:=by omega
  have htn:((i:Int)+1).toNat=i+1:=by omega
  have hb3:(i:Int)≤(n:Int):=by omega
  have hb4:(i:Int)+1≤(n:Int)+1:=by omega
  have hic:i≤c:=by omega
  go_enter Tryz.func128,Tryz.ntmps128
  go_wp2_with (first
   |(at_builtin;refine Lib.wpList_append_run _ rfl _ _ _ _ rfl _ _ rfl rfl _ _ (hrz _) ?_)
   |(refine wpList_copy_runI _ rfl _ _ 27 27 rfl _ _ rfl rfl (hcpA _ _) ?_))
  go_region_law (refine step_copy_runI rfl _ _ 27 27 rfl (.slice (some ⟨w.heap.size,(i+1)*3,none⟩) (n+1-(i+1)) (G-(i+1))) (.slice (some ⟨b,i*3,none⟩) (n-i) (c-i)) (by simp[Act.eval,Act.put]) (by simp[Act.eval,Act.put]) (hcpB _ _ _) ?_)
  go_wp2
  go_ret
  exact⟨rfl,rfl⟩
 apart:=by
  intro b o vc lb cb va cur v t1 w hne hb hv hpos
  obtain⟨i0,hi0,hz0,hzs,hzb⟩:=info_parts elemN.inf
  obtain⟨tA,kA,k1,k2⟩:=shape_of hv
  rw[run_callFunc_extern Tryz.func148 (by kernel_rfl) (by kernel_rfl) (by kernel_rfl) (e:=Extern.SlicesOverlaps.overlaps #[27,27] #[4]) (by kernel_rfl),
   run_overlaps_far w 27 4 55 Tryz.underlying27 3 (fun w=>by simp[sizeOf,typeInfo,hi0,hzs]) va ⟨b,o,none⟩ 1 vc lb cb hne tA t1 kA cur.size k1 (by simp[World.shape?,hb]) k2 (by simp[World.frozen?,hb]) (by simp[World.frozen?,hb])]
  rfl
 shift:=by
  intro b n c i vc va w w2 w3 hi hroom hc63 hov hcpA hcpB
  have hu:=Tryz.underlying27
  have hz1:¬((1:Int)=0):=by omega
  have hz2:¬((i:Int)=(n:Int)):=by omega
  have hz3:¬((c:Int)<(n:Int)+1):=by omega
  have hw1:IntKind.i64.wrap ((i:Int)+1)=(i:Int)+1:=by rw[IntKind.wrap_i64];omega
  have hw2:IntKind.i64.wrap ((n:Int)+1)=(n:Int)+1:=by rw[IntKind.wrap_i64];omega
  have hb1:(0:Int)≤(i:Int)+1:=by omega
  have hb0:(0:Int)≤(n:Int)+1:=by omega
  have hin:i≤n:=by omega
  have htn:((i:Int)+1).toNat=i+1:=by omega
  have htn2:((n:Int)+1).toNat=n+1:=by omega
  have hb3:(i:Int)≤(n:Int)+1:=by omega
  have hb4:(i:Int)+1≤(n:Int)+1:=by omega
  have hb5:(n:Int)+1≤(c:Int):=by omega
  have hci:¬(c=i):=by omega
  have hci1:¬(c=i+1):=by omega
  have hic:i≤c:=by omega
  go_enter Tryz.func128,Tryz.ntmps128
  go_wp2_with (simp only[hov])
  go_region_law (refine step_copy_runI rfl _ _ 27 27 rfl (.slice (some ⟨b,(i+1)*3,none⟩) (n+1-(i+1)) (c-(i+1))) (.slice (some ⟨b,i*3,none⟩) (n+1-i) (c-i)) (by simp[Act.eval,Act.put]) (by simp[Act.eval,Act.put]) (hcpA _ _ _) ?_)
  go_wp2_with (refine wpList_copy_runI _ rfl _ _ 27 27 rfl _ _ rfl rfl (hcpB _ _) ?_)
  go_ret
  exact⟨rfl,rfl⟩
set_option maxHeartbeats 4000000 in
set_option maxRecDepth 1000000 in
theorem delFN:DelF Tryz.prog 129 27 3 where
 fn:=⟨_,Tryz.func129,rfl,by decide⟩
 walk:=by
  intro b n c i j A w w2 w3 hij hj hnc hc63 hA hap hcl
  have hu:=Tryz.underlying27
  have hic:i≤c:=by omega
  have hjc:j≤c:=by omega
  have hcl3:¬(c=i+(n-j)):=by omega
  have hle1:i+(n-j)≤n:=by omega
  have hne:¬((i:Int)=(j:Int)):=by omega
  go_enter Tryz.func129,Tryz.ntmps129
  go_wp2_with fail
  go_region_law (refine step_append_runI rfl _ _ 27 27 rfl (.slice (some ⟨b,0,none⟩) i c) (.slice (some A) (n-j) (c-j)) (by simp[Act.eval,Act.put]) (by simp[Act.eval,Act.put]) (hap _) ?_)
  go_wp2_with (refine wpList_clear_runI _ rfl _ 27 rfl _ rfl (hcl _) ?_)
  go_ret
  exact⟨rfl,rfl⟩
abbrev insSpN:=insSpec 3 56
abbrev delSpN:=delSpec 3
theorem ins_okN:CallSound Tryz.prog fun f' args s=>if f'=128 then insSpN args s else none:=ins_gen elemN insFN
theorem del_okN:CallSound Tryz.prog fun f' args s=>if f'=129 then delSpN args s else none:=del_gen elemN delFN
end
section
set_option linter.unusedSimpArgs false
open Go.RowKit Go.Lib
theorem elemE:ElemT Tryz.prog 28 57 5 64 (.agg #[.int .i64 0,.int .i64 0,.int .i64 0,.string ⟨#[]⟩,.slice none 0 0]) (.agg [.int .i64 0,.int .i64 0,.int .i64 0,.str [],.sl false []]) where
 pos:=by omega
 b0:=by omega
 hu:=Tryz.underlying28
 inf:=by kernel_rfl
 zt:=by kernel_rfl
 zs:=rfl
 z1:=by decide
set_option maxHeartbeats 4000000 in
set_option maxRecDepth 1000000 in
theorem insFE:InsF Tryz.prog 135 28 3 5 161 where
 fn:=⟨_,Tryz.func135,rfl,by decide⟩
 iu:=Tryz.underlying3
 fin:=by
  intro base n c vc va w w1 x hnil hnc hrun
  have hu:=Tryz.underlying28
  have hz1:¬((1:Int)=0):=by omega
  cases base with
  |none=>
   have h0:=hnil rfl
   subst h0
   go_enter Tryz.func135,Tryz.ntmps135
   go_wp2_with (at_builtin;refine Lib.wpList_append_run _ rfl _ _ _ _ rfl _ _ rfl rfl _ _ (hrun _) ?_)
   all_goals (go_ret;exact⟨rfl,rfl⟩)
  |some a=>
   obtain⟨ab,ao,asp⟩:=a
   go_enter Tryz.func135,Tryz.ntmps135
   go_wp2_with (at_builtin;refine Lib.wpList_append_run _ rfl _ _ _ _ rfl _ _ rfl rfl _ _ (hrun _) ?_)
   all_goals (go_ret;exact⟨rfl,rfl⟩)
 grow:=by
  intro b n c i vc G va w w1 w2 w3 hi hnc hroom hGn hG63 hn46 hrz hcpA hcpB
  have hz1:¬((1:Int)=0):=by omega
  have hz2:¬((i:Int)=(n:Int)):=by omega
  have hz3:(c:Int)<(n:Int)+1:=by omega
  have hGi:¬(G=i):=by omega
  have hGi1:¬(G=i+1):=by omega
  have hci:¬(c=i):=by omega
  have hw1:IntKind.i64.wrap ((i:Int)+1)=(i:Int)+1:=by rw[IntKind.wrap_i64];omega
  have hw2:IntKind.i64.wrap ((n:Int)+1)=(n:Int)+1:=by rw[IntKind.wrap_i64];omega
  have hw3:IntKind.i64.wrap ((n:Int)+1-(i:Int))=(n:Int)+1-(i:Int):=by rw[IntKind.wrap_i64];omega
  have hb1:(0:Int)≤(i:Int)+1:=by omega
  have hin:i≤n:=by omega
  have htn:((i:Int)+1).toNat=i+1:=by omega
  have hb3:(i:Int)≤(n:Int):=by omega
  have hb4:(i:Int)+1≤(n:Int)+1:=by omega
  have hic:i≤c:=by omega
  go_enter Tryz.func135,Tryz.ntmps135
  go_wp2_with (first
   |(at_builtin;refine Lib.wpList_append_run _ rfl _ _ _ _ rfl _ _ rfl rfl _ _ (hrz _) ?_)
   |(refine wpList_copy_runI _ rfl _ _ 28 28 rfl _ _ rfl rfl (hcpA _ _) ?_))
  go_region_law (refine step_copy_runI rfl _ _ 28 28 rfl (.slice (some ⟨w.heap.size,(i+1)*5,none⟩) (n+1-(i+1)) (G-(i+1))) (.slice (some ⟨b,i*5,none⟩) (n-i) (c-i)) (by simp[Act.eval,Act.put]) (by simp[Act.eval,Act.put]) (hcpB _ _ _) ?_)
  go_wp2
  go_ret
  exact⟨rfl,rfl⟩
 apart:=by
  intro b o vc lb cb va cur v t1 w hne hb hv hpos
  obtain⟨i0,hi0,hz0,hzs,hzb⟩:=info_parts elemE.inf
  obtain⟨tA,kA,k1,k2⟩:=shape_of hv
  rw[run_callFunc_extern Tryz.func161 (by kernel_rfl) (by kernel_rfl) (by kernel_rfl) (e:=Extern.SlicesOverlaps.overlaps #[28,28] #[4]) (by kernel_rfl),
   run_overlaps_far w 28 4 57 Tryz.underlying28 5 (fun w=>by simp[sizeOf,typeInfo,hi0,hzs]) va ⟨b,o,none⟩ 1 vc lb cb hne tA t1 kA cur.size k1 (by simp[World.shape?,hb]) k2 (by simp[World.frozen?,hb]) (by simp[World.frozen?,hb])]
  rfl
 shift:=by
  intro b n c i vc va w w2 w3 hi hroom hc63 hov hcpA hcpB
  have hu:=Tryz.underlying28
  have hz1:¬((1:Int)=0):=by omega
  have hz2:¬((i:Int)=(n:Int)):=by omega
  have hz3:¬((c:Int)<(n:Int)+1):=by omega
  have hw1:IntKind.i64.wrap ((i:Int)+1)=(i:Int)+1:=by rw[IntKind.wrap_i64];omega
  have hw2:IntKind.i64.wrap ((n:Int)+1)=(n:Int)+1:=by rw[IntKind.wrap_i64];omega
  have hb1:(0:Int)≤(i:Int)+1:=by omega
  have hb0:(0:Int)≤(n:Int)+1:=by omega
  have hin:i≤n:=by omega
  have htn:((i:Int)+1).toNat=i+1:=by omega
  have htn2:((n:Int)+1).toNat=n+1:=by omega
  have hb3:(i:Int)≤(n:Int)+1:=by omega
  have hb4:(i:Int)+1≤(n:Int)+1:=by omega
  have hb5:(n:Int)+1≤(c:Int):=by omega
  have hci:¬(c=i):=by omega
  have hci1:¬(c=i+1):=by omega
  have hic:i≤c:=by omega
  go_enter Tryz.func135,Tryz.ntmps135
  go_wp2_with (simp only[hov])
  go_region_law (refine step_copy_runI rfl _ _ 28 28 rfl (.slice (some ⟨b,(i+1)*5,none⟩) (n+1-(i+1)) (c-(i+1))) (.slice (some ⟨b,i*5,none⟩) (n+1-i) (c-i)) (by simp[Act.eval,Act.put]) (by simp[Act.eval,Act.put]) (hcpA _ _ _) ?_)
  go_wp2_with (refine wpList_copy_runI _ rfl _ _ 28 28 rfl _ _ rfl rfl (hcpB _ _) ?_)
  go_ret
  exact⟨rfl,rfl⟩
set_option maxHeartbeats 4000000 in
set_option maxRecDepth 1000000 in
theorem delFE:DelF Tryz.prog 136 28 5 where
 fn:=⟨_,Tryz.func136,rfl,by decide⟩
 walk:=by
  intro b n c i j A w w2 w3 hij hj hnc hc63 hA hap hcl
  have hu:=Tryz.underlying28
  have hic:i≤c:=by omega
  have hjc:j≤c:=by omega
  have hcl3:¬(c=i+(n-j)):=by omega
  have hle1:i+(n-j)≤n:=by omega
  have hne:¬((i:Int)=(j:Int)):=by omega
  go_enter Tryz.func136,Tryz.ntmps136
  go_wp2_with fail
  go_region_law (refine step_append_runI rfl _ _ 28 28 rfl (.slice (some ⟨b,0,none⟩) i c) (.slice (some A) (n-j) (c-j)) (by simp[Act.eval,Act.put]) (by simp[Act.eval,Act.put]) (hap _) ?_)
  go_wp2_with (refine wpList_clear_runI _ rfl _ 28 rfl _ rfl (hcl _) ?_)
  go_ret
  exact⟨rfl,rfl⟩
abbrev insSpE:=insSpec 5 64
abbrev delSpE:=delSpec 5
theorem ins_okE:CallSound Tryz.prog fun f' args s=>if f'=135 then insSpE args s else none:=ins_gen elemE insFE
theorem del_okE:CallSound Tryz.prog fun f' args s=>if f'=136 then delSpE args s else none:=del_gen elemE delFE
end
section
set_option linter.unusedSimpArgs false
open Go.RowKit Go.Lib
theorem elemP:ElemT Tryz.prog 53 112 6 80 (.agg #[.string ⟨#[]⟩,.int .i64 0,.int .i64 0,.int .i64 0,.string ⟨#[]⟩,.slice none 0 0]) (.agg [.str [],.int .i64 0,.int .i64 0,.int .i64 0,.str [],.sl false []]) where
 pos:=by omega
 b0:=by omega
 hu:=Tryz.underlying53
 inf:=by kernel_rfl
 zt:=by kernel_rfl
 zs:=rfl
 z1:=by decide
set_option maxHeartbeats 4000000 in
set_option maxRecDepth 1000000 in
theorem insFP:InsF Tryz.prog 158 53 3 6 183 where
 fn:=⟨_,Tryz.func158,rfl,by decide⟩
 iu:=Tryz.underlying3
 fin:=by
  intro base n c vc va w w1 x hnil hnc hrun
  have hu:=Tryz.underlying53
  have hz1:¬((1:Int)=0):=by omega
  cases base with
  |none=>
   have h0:=hnil rfl
   subst h0
   go_enter Tryz.func158,Tryz.ntmps158
   go_wp2_with (at_builtin;refine Lib.wpList_append_run _ rfl _ _ _ _ rfl _ _ rfl rfl _ _ (hrun _) ?_)
   all_goals (go_ret;exact⟨rfl,rfl⟩)
  |some a=>
   obtain⟨ab,ao,asp⟩:=a
   go_enter Tryz.func158,Tryz.ntmps158
   go_wp2_with (at_builtin;refine Lib.wpList_append_run _ rfl _ _ _ _ rfl _ _ rfl rfl _ _ (hrun _) ?_)
   all_goals (go_ret;exact⟨rfl,rfl⟩)
 grow:=by
  intro b n c i vc G va w w1 w2 w3 hi hnc hroom hGn hG63 hn46 hrz hcpA hcpB
  have hz1:¬((1:Int)=0):=by omega
  have hz2:¬((i:Int)=(n:Int)):=by omega
  have hz3:(c:Int)<(n:Int)+1:=by omega
  have hGi:¬(G=i):=by omega
  have hGi1:¬(G=i+1):=by omega
  have hci:¬(c=i):=by omega
  have hw1:IntKind.i64.wrap ((i:Int)+1)=(i:Int)+1:=by rw[IntKind.wrap_i64];omega
  have hw2:IntKind.i64.wrap ((n:Int)+1)=(n:Int)+1:=by rw[IntKind.wrap_i64];omega
  have hw3:IntKind.i64.wrap ((n:Int)+1-(i:Int))=(n:Int)+1-(i:Int):=by rw[IntKind.wrap_i64];omega
  have hb1:(0:Int)≤(i:Int)+1:=by omega
  have hin:i≤n:=by omega
  have htn:((i:Int)+1).toNat=i+1:=by omega
  have hb3:(i:Int)≤(n:Int):=by omega
  have hb4:(i:Int)+1≤(n:Int)+1:=by omega
  have hic:i≤c:=by omega
  go_enter Tryz.func158,Tryz.ntmps158
  go_wp2_with (first
   |(at_builtin;refine Lib.wpList_append_run _ rfl _ _ _ _ rfl _ _ rfl rfl _ _ (hrz _) ?_)
   |(refine wpList_copy_runI _ rfl _ _ 53 53 rfl _ _ rfl rfl (hcpA _ _) ?_))
  go_region_law (refine step_copy_runI rfl _ _ 53 53 rfl (.slice (some ⟨w.heap.size,(i+1)*6,none⟩) (n+1-(i+1)) (G-(i+1))) (.slice (some ⟨b,i*6,none⟩) (n-i) (c-i)) (by simp[Act.eval,Act.put]) (by simp[Act.eval,Act.put]) (hcpB _ _ _) ?_)
  go_wp2
  go_ret
  exact⟨rfl,rfl⟩
 apart:=by
  intro b o vc lb cb va cur v t1 w hne hb hv hpos
  obtain⟨i0,hi0,hz0,hzs,hzb⟩:=info_parts elemP.inf
  obtain⟨tA,kA,k1,k2⟩:=shape_of hv
  rw[run_callFunc_extern Tryz.func183 (by kernel_rfl) (by kernel_rfl) (by kernel_rfl) (e:=Extern.SlicesOverlaps.overlaps #[53,53] #[4]) (by kernel_rfl),
   run_overlaps_far w 53 4 112 Tryz.underlying53 6 (fun w=>by simp[sizeOf,typeInfo,hi0,hzs]) va ⟨b,o,none⟩ 1 vc lb cb hne tA t1 kA cur.size k1 (by simp[World.shape?,hb]) k2 (by simp[World.frozen?,hb]) (by simp[World.frozen?,hb])]
  rfl
 shift:=by
  intro b n c i vc va w w2 w3 hi hroom hc63 hov hcpA hcpB
  have hu:=Tryz.underlying53
  have hz1:¬((1:Int)=0):=by omega
  have hz2:¬((i:Int)=(n:Int)):=by omega
  have hz3:¬((c:Int)<(n:Int)+1):=by omega
  have hw1:IntKind.i64.wrap ((i:Int)+1)=(i:Int)+1:=by rw[IntKind.wrap_i64];omega
  have hw2:IntKind.i64.wrap ((n:Int)+1)=(n:Int)+1:=by rw[IntKind.wrap_i64];omega
  have hb1:(0:Int)≤(i:Int)+1:=by omega
  have hb0:(0:Int)≤(n:Int)+1:=by omega
  have hin:i≤n:=by omega
  have htn:((i:Int)+1).toNat=i+1:=by omega
  have htn2:((n:Int)+1).toNat=n+1:=by omega
  have hb3:(i:Int)≤(n:Int)+1:=by omega
  have hb4:(i:Int)+1≤(n:Int)+1:=by omega
  have hb5:(n:Int)+1≤(c:Int):=by omega
  have hci:¬(c=i):=by omega
  have hci1:¬(c=i+1):=by omega
  have hic:i≤c:=by omega
  go_enter Tryz.func158,Tryz.ntmps158
  go_wp2_with (simp only[hov])
  go_region_law (refine step_copy_runI rfl _ _ 53 53 rfl (.slice (some ⟨b,(i+1)*6,none⟩) (n+1-(i+1)) (c-(i+1))) (.slice (some ⟨b,i*6,none⟩) (n+1-i) (c-i)) (by simp[Act.eval,Act.put]) (by simp[Act.eval,Act.put]) (hcpA _ _ _) ?_)
  go_wp2_with (refine wpList_copy_runI _ rfl _ _ 53 53 rfl _ _ rfl rfl (hcpB _ _) ?_)
  go_ret
  exact⟨rfl,rfl⟩
set_option maxHeartbeats 4000000 in
set_option maxRecDepth 1000000 in
theorem delFP:DelF Tryz.prog 157 53 6 where
 fn:=⟨_,Tryz.func157,rfl,by decide⟩
 walk:=by
  intro b n c i j A w w2 w3 hij hj hnc hc63 hA hap hcl
  have hu:=Tryz.underlying53
  have hic:i≤c:=by omega
  have hjc:j≤c:=by omega
  have hcl3:¬(c=i+(n-j)):=by omega
  have hle1:i+(n-j)≤n:=by omega
  have hne:¬((i:Int)=(j:Int)):=by omega
  go_enter Tryz.func157,Tryz.ntmps157
  go_wp2_with fail
  go_region_law (refine step_append_runI rfl _ _ 53 53 rfl (.slice (some ⟨b,0,none⟩) i c) (.slice (some A) (n-j) (c-j)) (by simp[Act.eval,Act.put]) (by simp[Act.eval,Act.put]) (hap _) ?_)
  go_wp2_with (refine wpList_clear_runI _ rfl _ 53 rfl _ rfl (hcl _) ?_)
  go_ret
  exact⟨rfl,rfl⟩
abbrev insSpP:=insSpec 6 80
abbrev delSpP:=delSpec 6
theorem ins_okP:CallSound Tryz.prog fun f' args s=>if f'=158 then insSpP args s else none:=ins_gen elemP insFP
theorem del_okP:CallSound Tryz.prog fun f' args s=>if f'=157 then delSpP args s else none:=del_gen elemP delFP
end
section
set_option linter.unusedSimpArgs false
open Go.RowKit Go.Lib
theorem elemS:ElemT Tryz.prog 31 9 1 16 (.string ⟨#[]⟩) (.str []) where
 pos:=by omega
 b0:=by omega
 hu:=Tryz.underlying31
 inf:=by kernel_rfl
 zt:=by kernel_rfl
 zs:=rfl
 z1:=by decide
set_option maxHeartbeats 4000000 in
set_option maxRecDepth 1000000 in
theorem insFS:InsF Tryz.prog 131 31 3 1 152 where
 fn:=⟨_,Tryz.func131,rfl,by decide⟩
 iu:=Tryz.underlying3
 fin:=by
  intro base n c vc va w w1 x hnil hnc hrun
  have hu:=Tryz.underlying31
  have hz1:¬((1:Int)=0):=by omega
  cases base with
  |none=>
   have h0:=hnil rfl
   subst h0
   go_enter Tryz.func131,Tryz.ntmps131
   go_wp2_with (at_builtin;refine Lib.wpList_append_run _ rfl _ _ _ _ rfl _ _ rfl rfl _ _ (hrun _) ?_)
   all_goals (go_ret;exact⟨rfl,rfl⟩)
  |some a=>
   obtain⟨ab,ao,asp⟩:=a
   go_enter Tryz.func131,Tryz.ntmps131
   go_wp2_with (at_builtin;refine Lib.wpList_append_run _ rfl _ _ _ _ rfl _ _ rfl rfl _ _ (hrun _) ?_)
   all_goals (go_ret;exact⟨rfl,rfl⟩)
 grow:=by
  intro b n c i vc G va w w1 w2 w3 hi hnc hroom hGn hG63 hn46 hrz hcpA hcpB
  simp only[Nat.mul_one]at hcpA hcpB
  have hz1:¬((1:Int)=0):=by omega
  have hz2:¬((i:Int)=(n:Int)):=by omega
  have hz3:(c:Int)<(n:Int)+1:=by omega
  have hGi:¬(G=i):=by omega
  have hGi1:¬(G=i+1):=by omega
  have hci:¬(c=i):=by omega
  have hw1:IntKind.i64.wrap ((i:Int)+1)=(i:Int)+1:=by rw[IntKind.wrap_i64];omega
  have hw2:IntKind.i64.wrap ((n:Int)+1)=(n:Int)+1:=by rw[IntKind.wrap_i64];omega
  have hw3:IntKind.i64.wrap ((n:Int)+1-(i:Int))=(n:Int)+1-(i:Int):=by rw[IntKind.wrap_i64];omega
  have hb1:(0:Int)≤(i:Int)+1:=by omega
  have hin:i≤n:=by omega
  have htn:((i:Int)+1).toNat=i+1:=by omega
  have hb3:(i:Int)≤(n:Int):=by omega
  have hb4:(i:Int)+1≤(n:Int)+1:=by omega
  have hic:i≤c:=by omega
  go_enter Tryz.func131,Tryz.ntmps131
  go_wp2_with (first
   |(at_builtin;refine Lib.wpList_append_run _ rfl _ _ _ _ rfl _ _ rfl rfl _ _ (hrz _) ?_)
   |(refine wpList_copy_runI _ rfl _ _ 31 31 rfl _ _ rfl rfl (hcpA _ _) ?_))
  go_region_law (refine step_copy_runI rfl _ _ 31 31 rfl (.slice (some ⟨w.heap.size,(i+1),none⟩) (n+1-(i+1)) (G-(i+1))) (.slice (some ⟨b,i,none⟩) (n-i) (c-i)) (by simp[Act.eval,Act.put]) (by simp[Act.eval,Act.put]) (hcpB _ _ _) ?_)
  go_wp2
  go_ret
  exact⟨rfl,rfl⟩
 apart:=by
  intro b o vc lb cb va cur v t1 w hne hb hv hpos
  obtain⟨i0,hi0,hz0,hzs,hzb⟩:=info_parts elemS.inf
  obtain⟨tA,kA,k1,k2⟩:=shape_of hv
  rw[run_callFunc_extern Tryz.func152 (by kernel_rfl) (by kernel_rfl) (by kernel_rfl) (e:=Extern.SlicesOverlaps.overlaps #[31,31] #[4]) (by kernel_rfl),
   run_overlaps_far w 31 4 9 Tryz.underlying31 1 (fun w=>by simp[sizeOf,typeInfo,hi0,hzs]) va ⟨b,o,none⟩ 1 vc lb cb hne tA t1 kA cur.size k1 (by simp[World.shape?,hb]) k2 (by simp[World.frozen?,hb]) (by simp[World.frozen?,hb])]
  rfl
 shift:=by
  intro b n c i vc va w w2 w3 hi hroom hc63 hov hcpA hcpB
  simp only[Nat.mul_one]at hov hcpA hcpB
  have hu:=Tryz.underlying31
  have hz1:¬((1:Int)=0):=by omega
  have hz2:¬((i:Int)=(n:Int)):=by omega
  have hz3:¬((c:Int)<(n:Int)+1):=by omega
  have hw1:IntKind.i64.wrap ((i:Int)+1)=(i:Int)+1:=by rw[IntKind.wrap_i64];omega
  have hw2:IntKind.i64.wrap ((n:Int)+1)=(n:Int)+1:=by rw[IntKind.wrap_i64];omega
  have hb1:(0:Int)≤(i:Int)+1:=by omega
  have hb0:(0:Int)≤(n:Int)+1:=by omega
  have hin:i≤n:=by omega
  have htn:((i:Int)+1).toNat=i+1:=by omega
  have htn2:((n:Int)+1).toNat=n+1:=by omega
  have hb3:(i:Int)≤(n:Int)+1:=by omega
  have hb4:(i:Int)+1≤(n:Int)+1:=by omega
  have hb5:(n:Int)+1≤(c:Int):=by omega
  have hci:¬(c=i):=by omega
  have hci1:¬(c=i+1):=by omega
  have hic:i≤c:=by omega
  go_enter Tryz.func131,Tryz.ntmps131
  go_wp2_with (simp only[hov])
  go_region_law (refine step_copy_runI rfl _ _ 31 31 rfl (.slice (some ⟨b,(i+1),none⟩) (n+1-(i+1)) (c-(i+1))) (.slice (some ⟨b,i,none⟩) (n+1-i) (c-i)) (by simp[Act.eval,Act.put]) (by simp[Act.eval,Act.put]) (hcpA _ _ _) ?_)
  go_wp2_with (refine wpList_copy_runI _ rfl _ _ 31 31 rfl _ _ rfl rfl (hcpB _ _) ?_)
  go_ret
  exact⟨rfl,rfl⟩
set_option maxHeartbeats 4000000 in
set_option maxRecDepth 1000000 in
theorem delFS:DelF Tryz.prog 132 31 1 where
 fn:=⟨_,Tryz.func132,rfl,by decide⟩
 walk:=by
  intro b n c i j A w w2 w3 hij hj hnc hc63 hA hap hcl
  simp only[Nat.mul_one]at hA hcl
  have hu:=Tryz.underlying31
  have hic:i≤c:=by omega
  have hjc:j≤c:=by omega
  have hcl3:¬(c=i+(n-j)):=by omega
  have hle1:i+(n-j)≤n:=by omega
  have hne:¬((i:Int)=(j:Int)):=by omega
  go_enter Tryz.func132,Tryz.ntmps132
  go_wp2_with fail
  go_region_law (refine step_append_runI rfl _ _ 31 31 rfl (.slice (some ⟨b,0,none⟩) i c) (.slice (some A) (n-j) (c-j)) (by simp[Act.eval,Act.put]) (by simp[Act.eval,Act.put]) (hap _) ?_)
  go_wp2_with (refine wpList_clear_runI _ rfl _ 31 rfl _ rfl (hcl _) ?_)
  go_ret
  exact⟨rfl,rfl⟩
abbrev insSpS:=insSpec 1 16
abbrev delSpS:=delSpec 1
theorem ins_okS:CallSound Tryz.prog fun f' args s=>if f'=131 then insSpS args s else none:=ins_gen elemS insFS
theorem del_okS:CallSound Tryz.prog fun f' args s=>if f'=132 then delSpS args s else none:=del_gen elemS delFS
end
end AI
end Go.Proofs.YtgmgkkbpgndaaaaGreatDoor
