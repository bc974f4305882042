/- Steps at which a walk through slices.Delete takes a run from outside. slices.Insert and slices.Delete at api.Edge: the walks. slices.Insert and slices.Delete at api.Prop: the walks. slices.Insert and slices.Delete at string: the walks. slices.Insert and slices.Delete at api.Rule: the walks. -/
import Derived.Test.YtjijnamhalgamaaGreatDoorTInG
import Derived.Test.YtjijnamhalgamaaGreatDoorChecked
import Derived.Deep.RegionLaw
set_option linter.unusedVariables false
set_option maxRecDepth 4000
namespace Go.Proofs.YtjijnamhalgamaaGreatDoor
namespace AI
section
open Go.RowKit Go.Lib
theorem D8 {P:Program} {ops:Array Oper} {o:Oper} {a:Act} {w:World} {K:Act→World→Prop} {Q:Exit→Act→World→Prop} {E:Prop}
 (hg:o.guard=none) (d x:Operand) (dT sT:TypeId) (hop:o.op=Op.call {callee:=Callee.builtin Builtin.append,args:=#[d,x],argTypes:=#[dT,sT]})
 (v u:Value) (hd:a.eval d=v) (hx:a.eval x=u) {v':Value} {w':World} (hr:(Builtin.append_ #[dT,sT] o.type #[v,u]).run P w=.ok v' w') (hK:K (a.put o.dst v') w'):
 if Region.wanted o (yielded ops a.tmps)=true then Oper.wp P o a w K Q else E:=by
 have hw:Region.wanted o (yielded ops a.tmps)=true:=by simp[Region.wanted,hg]
 rw[if_pos hw]
 unfold Oper.wp
 simp[execOp,hop,resolve,invoke,builtin,hd,hx,hr,Result.andThen]
 exact hK
theorem UO {P:Program} (w:World) {o:Oper} {a:Act} {K:Act→World→Prop} {Q:Exit→Act→World→Prop} (d:Operand) (t:TypeId)
 (ho:o.op=.call {callee:=.builtin .clear,args:=#[d],argTypes:=#[t]}) (v:Value) (hd:a.eval d=v) {v':Value} {w':World}
 (hr:(Builtin.clear_ #[t] o.type #[v]).run P w=.ok v' w') (h:K (a.put o.dst v') w'):o.wp P a w K Q:=by
 unfold Oper.wp execOp
 simp only[ho,resolve,invoke,builtin,Sem.run_bind,Sem.run_pure,Result.andThen_ok,List.map_toArray,List.map_cons,List.map_nil,hd,hr]
 exact h
theorem DT {P:Program} (w:World) {ops:Array Oper} {rest:List Oper} {o:Oper} {a:Act} {Q:Exit→Act→World→Prop} (hgd:o.guard=none) (d:Operand) (t:TypeId)
 (ho:o.op=.call {callee:=.builtin .clear,args:=#[d],argTypes:=#[t]}) (v:Value) (hd:a.eval d=v) {v':Value} {w':World}
 (hr:(Builtin.clear_ #[t] o.type #[v]).run P w=.ok v' w') (h:wpList P ops Q rest (a.put o.dst v') w'):wpList P ops Q (o::rest) a w:=
 wpList_plain hgd fun _ hK=>UO w d t ho v hd hr (hK _ _ h)
end
section
set_option linter.unusedSimpArgs false
open Go.RowKit Go.Lib
theorem Aeb:NP Tryz.prog 23 87 5 64 (.agg #[.int .i64 0,.int .i64 0,.int .i64 0,.string ⟨#[]⟩,.slice none 0 0]) (.agg [.int .i64 0,.int .i64 0,.int .i64 0,.str [],.sl false []]) where
 pos:=by omega
 b0:=by omega
 hu:=Tryz.underlying23
 inf:=by kernel_rfl
 zt:=by kernel_rfl
 zs:=rfl
 z1:=by decide
set_option maxHeartbeats 4000000 in
set_option maxRecDepth 1000000 in
theorem Amy:Xk Tryz.prog 204 23 3 5 260 where
 fn:=⟨_,Tryz.func204,rfl,by decide⟩
 iu:=Tryz.underlying3
 fin:=by
  intro base n c vc va w w1 x hnil hnc hrun
  have hu:=Tryz.underlying23
  have hz1:¬((1:Int)=0):=by omega
  cases base with
  |none=>
   have h0:=hnil rfl
   subst h0
   go_enter Tryz.func204,Tryz.ntmps204
   go_wp2_with (at_builtin;refine Lib.wpList_append_run _ rfl _ _ _ _ rfl _ _ rfl rfl _ _ (hrun _) ?_)
   all_goals (go_ret;exact⟨rfl,rfl⟩)
  |some a=>
   obtain⟨ab,ao,asp⟩:=a
   go_enter Tryz.func204,Tryz.ntmps204
   go_wp2_with (at_builtin;refine Lib.wpList_append_run _ rfl _ _ _ _ rfl _ _ rfl rfl _ _ (hrun _) ?_)
   all_goals (go_ret;exact⟨rfl,rfl⟩)
 grow:=by
  intro b n c i vc G va w w1 w2 w3 hi hnc hroom hGn hG63 Abq hrz hcpA hcpB
  have hz1:¬((1:Int)=0):=by omega
  have hz2:¬((i:Int)=(n:Int)):=by omega
  have hz3:(c:Int)<(n:Int)+1:=by omega
  have hGi:¬(G=i):=by omega
  have AfS:¬(G=i+1):=by omega
  have hci:¬(c=i):=by omega
  have hw1:IntKind.i64.wrap ((i:Int)+1)=(i:Int)+1:=by rw[IntKind.wrap_i64];omega
  have hw2:IntKind.i64.wrap ((n:Int)+1)=(n:Int)+1:=by rw[IntKind.wrap_i64];omega
  have hw3:IntKind.i64.wrap ((n:Int)+1-(i:Int))=(n:Int)+1-(i:Int):=by rw[IntKind.wrap_i64];omega
  have hb1:(0:Int)≤(i:Int)+1:=by omega
  have hin:i≤n:=by omega
  have htn:((i:Int)+1).toNat=i+1:=by omega
  have hb3:(i:Int)≤(n:Int):=by omega
  have hb4:(i:Int)+1≤(n:Int)+1:=by omega
  have hic:i≤c:=by omega
  go_enter Tryz.func204,Tryz.ntmps204
  go_wp2_with (first
   |(at_builtin;refine Lib.wpList_append_run _ rfl _ _ _ _ rfl _ _ rfl rfl _ _ (hrz _) ?_)
   |(refine wpList_copy_runI _ rfl _ _ 23 23 rfl _ _ rfl rfl (hcpA _ _) ?_))
  go_region_law (refine step_copy_runI rfl _ _ 23 23 rfl (.slice (some ⟨w.heap.size,(i+1)*5,none⟩) (n+1-(i+1)) (G-(i+1))) (.slice (some ⟨b,i*5,none⟩) (n-i) (c-i)) (by simp[Act.eval,Act.put]) (by simp[Act.eval,Act.put]) (hcpB _ _ _) ?_)
  go_wp2
  go_ret
  exact⟨rfl,rfl⟩
 apart:=by
  intro b o vc lb cb va cur v t1 w hne hb hv hpos
  obtain⟨i0,hi0,hz0,hzs,hzb⟩:=info_parts Aeb.inf
  obtain⟨tA,kA,k1,k2⟩:=LP hv
  rw[run_callFunc_extern Tryz.func260 (by kernel_rfl) (by kernel_rfl) (by kernel_rfl) (e:=Extern.SlicesOverlaps.overlaps #[23,23] #[4]) (by kernel_rfl),
   D7 w 23 4 87 Tryz.underlying23 5 (fun w=>by simp[sizeOf,typeInfo,hi0,hzs]) va ⟨b,o,none⟩ 1 vc lb cb hne tA t1 kA cur.size k1 (by simp[World.shape?,hb]) k2 (by simp[World.frozen?,hb]) (by simp[World.frozen?,hb])]
  rfl
 shift:=by
  intro b n c i vc va w w2 w3 hi hroom hc63 hov hcpA hcpB
  have hu:=Tryz.underlying23
  have hz1:¬((1:Int)=0):=by omega
  have hz2:¬((i:Int)=(n:Int)):=by omega
  have hz3:¬((c:Int)<(n:Int)+1):=by omega
  have hw1:IntKind.i64.wrap ((i:Int)+1)=(i:Int)+1:=by rw[IntKind.wrap_i64];omega
  have hw2:IntKind.i64.wrap ((n:Int)+1)=(n:Int)+1:=by rw[IntKind.wrap_i64];omega
  have hb1:(0:Int)≤(i:Int)+1:=by omega
  have hb0:(0:Int)≤(n:Int)+1:=by omega
  have hin:i≤n:=by omega
  have htn:((i:Int)+1).toNat=i+1:=by omega
  have AfT:((n:Int)+1).toNat=n+1:=by omega
  have hb3:(i:Int)≤(n:Int)+1:=by omega
  have hb4:(i:Int)+1≤(n:Int)+1:=by omega
  have hb5:(n:Int)+1≤(c:Int):=by omega
  have hci:¬(c=i):=by omega
  have AfU:¬(c=i+1):=by omega
  have hic:i≤c:=by omega
  go_enter Tryz.func204,Tryz.ntmps204
  go_wp2_with (simp only[hov])
  go_region_law (refine step_copy_runI rfl _ _ 23 23 rfl (.slice (some ⟨b,(i+1)*5,none⟩) (n+1-(i+1)) (c-(i+1))) (.slice (some ⟨b,i*5,none⟩) (n+1-i) (c-i)) (by simp[Act.eval,Act.put]) (by simp[Act.eval,Act.put]) (hcpA _ _ _) ?_)
  go_wp2_with (refine wpList_copy_runI _ rfl _ _ 23 23 rfl _ _ rfl rfl (hcpB _ _) ?_)
  go_ret
  exact⟨rfl,rfl⟩
set_option maxHeartbeats 4000000 in
set_option maxRecDepth 1000000 in
theorem Amz:YO Tryz.prog 205 23 5 where
 fn:=⟨_,Tryz.func205,rfl,by decide⟩
 walk:=by
  intro b n c i j A w w2 w3 hij hj hnc hc63 hA hap hcl
  have hu:=Tryz.underlying23
  have hic:i≤c:=by omega
  have hjc:j≤c:=by omega
  have AfV:¬(c=i+(n-j)):=by omega
  have hle1:i+(n-j)≤n:=by omega
  have hne:¬((i:Int)=(j:Int)):=by omega
  go_enter Tryz.func205,Tryz.ntmps205
  go_wp2_with fail
  go_region_law (refine D8 rfl _ _ 23 23 rfl (.slice (some ⟨b,0,none⟩) i c) (.slice (some A) (n-j) (c-j)) (by simp[Act.eval,Act.put]) (by simp[Act.eval,Act.put]) (hap _) ?_)
  go_wp2_with (refine DT _ rfl _ 23 rfl _ rfl (hcl _) ?_)
  go_ret
  exact⟨rfl,rfl⟩
abbrev Aec:=D5 5 64
abbrev Aed:=AcD 5
theorem AgO:AY Tryz.prog fun f' args s=>if f'=204 then Aec args s else none:=OT Aeb Amy
theorem AgP:AY Tryz.prog fun f' args s=>if f'=205 then Aed args s else none:=OU Aeb Amz
end
section
set_option linter.unusedSimpArgs false
open Go.RowKit Go.Lib
theorem AdH:NP Tryz.prog 55 131 6 80 (.agg #[.string ⟨#[]⟩,.int .i64 0,.int .i64 0,.int .i64 0,.string ⟨#[]⟩,.slice none 0 0]) (.agg [.str [],.int .i64 0,.int .i64 0,.int .i64 0,.str [],.sl false []]) where
 pos:=by omega
 b0:=by omega
 hu:=Tryz.underlying55
 inf:=by kernel_rfl
 zt:=by kernel_rfl
 zs:=rfl
 z1:=by decide
set_option maxHeartbeats 4000000 in
set_option maxRecDepth 1000000 in
theorem Al4:Xk Tryz.prog 257 55 3 6 288 where
 fn:=⟨_,Tryz.func257,rfl,by decide⟩
 iu:=Tryz.underlying3
 fin:=by
  intro base n c vc va w w1 x hnil hnc hrun
  have hu:=Tryz.underlying55
  have hz1:¬((1:Int)=0):=by omega
  cases base with
  |none=>
   have h0:=hnil rfl
   subst h0
   go_enter Tryz.func257,Tryz.ntmps257
   go_wp2_with (at_builtin;refine Lib.wpList_append_run _ rfl _ _ _ _ rfl _ _ rfl rfl _ _ (hrun _) ?_)
   all_goals (go_ret;exact⟨rfl,rfl⟩)
  |some a=>
   obtain⟨ab,ao,asp⟩:=a
   go_enter Tryz.func257,Tryz.ntmps257
   go_wp2_with (at_builtin;refine Lib.wpList_append_run _ rfl _ _ _ _ rfl _ _ rfl rfl _ _ (hrun _) ?_)
   all_goals (go_ret;exact⟨rfl,rfl⟩)
 grow:=by
  intro b n c i vc G va w w1 w2 w3 hi hnc hroom hGn hG63 Abq hrz hcpA hcpB
  have hz1:¬((1:Int)=0):=by omega
  have hz2:¬((i:Int)=(n:Int)):=by omega
  have hz3:(c:Int)<(n:Int)+1:=by omega
  have hGi:¬(G=i):=by omega
  have AfS:¬(G=i+1):=by omega
  have hci:¬(c=i):=by omega
  have hw1:IntKind.i64.wrap ((i:Int)+1)=(i:Int)+1:=by rw[IntKind.wrap_i64];omega
  have hw2:IntKind.i64.wrap ((n:Int)+1)=(n:Int)+1:=by rw[IntKind.wrap_i64];omega
  have hw3:IntKind.i64.wrap ((n:Int)+1-(i:Int))=(n:Int)+1-(i:Int):=by rw[IntKind.wrap_i64];omega
  have hb1:(0:Int)≤(i:Int)+1:=by omega
  have hin:i≤n:=by omega
  have htn:((i:Int)+1).toNat=i+1:=by omega
  have hb3:(i:Int)≤(n:Int):=by omega
  have hb4:(i:Int)+1≤(n:Int)+1:=by omega
  have hic:i≤c:=by omega
  go_enter Tryz.func257,Tryz.ntmps257
  go_wp2_with (first
   |(at_builtin;refine Lib.wpList_append_run _ rfl _ _ _ _ rfl _ _ rfl rfl _ _ (hrz _) ?_)
   |(refine wpList_copy_runI _ rfl _ _ 55 55 rfl _ _ rfl rfl (hcpA _ _) ?_))
  go_region_law (refine step_copy_runI rfl _ _ 55 55 rfl (.slice (some ⟨w.heap.size,(i+1)*6,none⟩) (n+1-(i+1)) (G-(i+1))) (.slice (some ⟨b,i*6,none⟩) (n-i) (c-i)) (by simp[Act.eval,Act.put]) (by simp[Act.eval,Act.put]) (hcpB _ _ _) ?_)
  go_wp2
  go_ret
  exact⟨rfl,rfl⟩
 apart:=by
  intro b o vc lb cb va cur v t1 w hne hb hv hpos
  obtain⟨i0,hi0,hz0,hzs,hzb⟩:=info_parts AdH.inf
  obtain⟨tA,kA,k1,k2⟩:=LP hv
  rw[run_callFunc_extern Tryz.func288 (by kernel_rfl) (by kernel_rfl) (by kernel_rfl) (e:=Extern.SlicesOverlaps.overlaps #[55,55] #[4]) (by kernel_rfl),
   D7 w 55 4 131 Tryz.underlying55 6 (fun w=>by simp[sizeOf,typeInfo,hi0,hzs]) va ⟨b,o,none⟩ 1 vc lb cb hne tA t1 kA cur.size k1 (by simp[World.shape?,hb]) k2 (by simp[World.frozen?,hb]) (by simp[World.frozen?,hb])]
  rfl
 shift:=by
  intro b n c i vc va w w2 w3 hi hroom hc63 hov hcpA hcpB
  have hu:=Tryz.underlying55
  have hz1:¬((1:Int)=0):=by omega
  have hz2:¬((i:Int)=(n:Int)):=by omega
  have hz3:¬((c:Int)<(n:Int)+1):=by omega
  have hw1:IntKind.i64.wrap ((i:Int)+1)=(i:Int)+1:=by rw[IntKind.wrap_i64];omega
  have hw2:IntKind.i64.wrap ((n:Int)+1)=(n:Int)+1:=by rw[IntKind.wrap_i64];omega
  have hb1:(0:Int)≤(i:Int)+1:=by omega
  have hb0:(0:Int)≤(n:Int)+1:=by omega
  have hin:i≤n:=by omega
  have htn:((i:Int)+1).toNat=i+1:=by omega
  have AfT:((n:Int)+1).toNat=n+1:=by omega
  have hb3:(i:Int)≤(n:Int)+1:=by omega
  have hb4:(i:Int)+1≤(n:Int)+1:=by omega
  have hb5:(n:Int)+1≤(c:Int):=by omega
  have hci:¬(c=i):=by omega
  have AfU:¬(c=i+1):=by omega
  have hic:i≤c:=by omega
  go_enter Tryz.func257,Tryz.ntmps257
  go_wp2_with (simp only[hov])
  go_region_law (refine step_copy_runI rfl _ _ 55 55 rfl (.slice (some ⟨b,(i+1)*6,none⟩) (n+1-(i+1)) (c-(i+1))) (.slice (some ⟨b,i*6,none⟩) (n+1-i) (c-i)) (by simp[Act.eval,Act.put]) (by simp[Act.eval,Act.put]) (hcpA _ _ _) ?_)
  go_wp2_with (refine wpList_copy_runI _ rfl _ _ 55 55 rfl _ _ rfl rfl (hcpB _ _) ?_)
  go_ret
  exact⟨rfl,rfl⟩
set_option maxHeartbeats 4000000 in
set_option maxRecDepth 1000000 in
theorem Al5:YO Tryz.prog 256 55 6 where
 fn:=⟨_,Tryz.func256,rfl,by decide⟩
 walk:=by
  intro b n c i j A w w2 w3 hij hj hnc hc63 hA hap hcl
  have hu:=Tryz.underlying55
  have hic:i≤c:=by omega
  have hjc:j≤c:=by omega
  have AfV:¬(c=i+(n-j)):=by omega
  have hle1:i+(n-j)≤n:=by omega
  have hne:¬((i:Int)=(j:Int)):=by omega
  go_enter Tryz.func256,Tryz.ntmps256
  go_wp2_with fail
  go_region_law (refine D8 rfl _ _ 55 55 rfl (.slice (some ⟨b,0,none⟩) i c) (.slice (some A) (n-j) (c-j)) (by simp[Act.eval,Act.put]) (by simp[Act.eval,Act.put]) (hap _) ?_)
  go_wp2_with (refine DT _ rfl _ 55 rfl _ rfl (hcl _) ?_)
  go_ret
  exact⟨rfl,rfl⟩
abbrev AdI:=D5 6 80
abbrev AdJ:=AcD 6
theorem Agw:AY Tryz.prog fun f' args s=>if f'=257 then AdI args s else none:=OT AdH Al4
theorem Agx:AY Tryz.prog fun f' args s=>if f'=256 then AdJ args s else none:=OU AdH Al5
end
section
set_option linter.unusedSimpArgs false
open Go.RowKit Go.Lib
theorem Afx:NP Tryz.prog 54 9 1 16 (.string ⟨#[]⟩) (.str []) where
 pos:=by omega
 b0:=by omega
 hu:=Tryz.underlying54
 inf:=by kernel_rfl
 zt:=by kernel_rfl
 zs:=rfl
 z1:=by decide
set_option maxHeartbeats 4000000 in
set_option maxRecDepth 1000000 in
theorem Anq:Xk Tryz.prog 200 54 3 1 252 where
 fn:=⟨_,Tryz.func200,rfl,by decide⟩
 iu:=Tryz.underlying3
 fin:=by
  intro base n c vc va w w1 x hnil hnc hrun
  have hu:=Tryz.underlying54
  have hz1:¬((1:Int)=0):=by omega
  cases base with
  |none=>
   have h0:=hnil rfl
   subst h0
   go_enter Tryz.func200,Tryz.ntmps200
   go_wp2_with (at_builtin;refine Lib.wpList_append_run _ rfl _ _ _ _ rfl _ _ rfl rfl _ _ (hrun _) ?_)
   all_goals (go_ret;exact⟨rfl,rfl⟩)
  |some a=>
   obtain⟨ab,ao,asp⟩:=a
   go_enter Tryz.func200,Tryz.ntmps200
   go_wp2_with (at_builtin;refine Lib.wpList_append_run _ rfl _ _ _ _ rfl _ _ rfl rfl _ _ (hrun _) ?_)
   all_goals (go_ret;exact⟨rfl,rfl⟩)
 grow:=by
  intro b n c i vc G va w w1 w2 w3 hi hnc hroom hGn hG63 Abq hrz hcpA hcpB
  simp only[Nat.mul_one]at hcpA hcpB
  have hz1:¬((1:Int)=0):=by omega
  have hz2:¬((i:Int)=(n:Int)):=by omega
  have hz3:(c:Int)<(n:Int)+1:=by omega
  have hGi:¬(G=i):=by omega
  have AfS:¬(G=i+1):=by omega
  have hci:¬(c=i):=by omega
  have hw1:IntKind.i64.wrap ((i:Int)+1)=(i:Int)+1:=by rw[IntKind.wrap_i64];omega
  have hw2:IntKind.i64.wrap ((n:Int)+1)=(n:Int)+1:=by rw[IntKind.wrap_i64];omega
  have hw3:IntKind.i64.wrap ((n:Int)+1-(i:Int))=(n:Int)+1-(i:Int):=by rw[IntKind.wrap_i64];omega
  have hb1:(0:Int)≤(i:Int)+1:=by omega
  have hin:i≤n:=by omega
  have htn:((i:Int)+1).toNat=i+1:=by omega
  have hb3:(i:Int)≤(n:Int):=by omega
  have hb4:(i:Int)+1≤(n:Int)+1:=by omega
  have hic:i≤c:=by omega
  go_enter Tryz.func200,Tryz.ntmps200
  go_wp2_with (first
   |(at_builtin;refine Lib.wpList_append_run _ rfl _ _ _ _ rfl _ _ rfl rfl _ _ (hrz _) ?_)
   |(refine wpList_copy_runI _ rfl _ _ 54 54 rfl _ _ rfl rfl (hcpA _ _) ?_))
  go_region_law (refine step_copy_runI rfl _ _ 54 54 rfl (.slice (some ⟨w.heap.size,(i+1),none⟩) (n+1-(i+1)) (G-(i+1))) (.slice (some ⟨b,i,none⟩) (n-i) (c-i)) (by simp[Act.eval,Act.put]) (by simp[Act.eval,Act.put]) (hcpB _ _ _) ?_)
  go_wp2
  go_ret
  exact⟨rfl,rfl⟩
 apart:=by
  intro b o vc lb cb va cur v t1 w hne hb hv hpos
  obtain⟨i0,hi0,hz0,hzs,hzb⟩:=info_parts Afx.inf
  obtain⟨tA,kA,k1,k2⟩:=LP hv
  rw[run_callFunc_extern Tryz.func252 (by kernel_rfl) (by kernel_rfl) (by kernel_rfl) (e:=Extern.SlicesOverlaps.overlaps #[54,54] #[4]) (by kernel_rfl),
   D7 w 54 4 9 Tryz.underlying54 1 (fun w=>by simp[sizeOf,typeInfo,hi0,hzs]) va ⟨b,o,none⟩ 1 vc lb cb hne tA t1 kA cur.size k1 (by simp[World.shape?,hb]) k2 (by simp[World.frozen?,hb]) (by simp[World.frozen?,hb])]
  rfl
 shift:=by
  intro b n c i vc va w w2 w3 hi hroom hc63 hov hcpA hcpB
  simp only[Nat.mul_one]at hov hcpA hcpB
  have hu:=Tryz.underlying54
  have hz1:¬((1:Int)=0):=by omega
  have hz2:¬((i:Int)=(n:Int)):=by omega
  have hz3:¬((c:Int)<(n:Int)+1):=by omega
  have hw1:IntKind.i64.wrap ((i:Int)+1)=(i:Int)+1:=by rw[IntKind.wrap_i64];omega
  have hw2:IntKind.i64.wrap ((n:Int)+1)=(n:Int)+1:=by rw[IntKind.wrap_i64];omega
  have hb1:(0:Int)≤(i:Int)+1:=by omega
  have hb0:(0:Int)≤(n:Int)+1:=by omega
  have hin:i≤n:=by omega
  have htn:((i:Int)+1).toNat=i+1:=by omega
  have AfT:((n:Int)+1).toNat=n+1:=by omega
  have hb3:(i:Int)≤(n:Int)+1:=by omega
  have hb4:(i:Int)+1≤(n:Int)+1:=by omega
  have hb5:(n:Int)+1≤(c:Int):=by omega
  have hci:¬(c=i):=by omega
  have AfU:¬(c=i+1):=by omega
  have hic:i≤c:=by omega
  go_enter Tryz.func200,Tryz.ntmps200
  go_wp2_with (simp only[hov])
  go_region_law (refine step_copy_runI rfl _ _ 54 54 rfl (.slice (some ⟨b,(i+1),none⟩) (n+1-(i+1)) (c-(i+1))) (.slice (some ⟨b,i,none⟩) (n+1-i) (c-i)) (by simp[Act.eval,Act.put]) (by simp[Act.eval,Act.put]) (hcpA _ _ _) ?_)
  go_wp2_with (refine wpList_copy_runI _ rfl _ _ 54 54 rfl _ _ rfl rfl (hcpB _ _) ?_)
  go_ret
  exact⟨rfl,rfl⟩
set_option maxHeartbeats 4000000 in
set_option maxRecDepth 1000000 in
theorem Anr:YO Tryz.prog 201 54 1 where
 fn:=⟨_,Tryz.func201,rfl,by decide⟩
 walk:=by
  intro b n c i j A w w2 w3 hij hj hnc hc63 hA hap hcl
  simp only[Nat.mul_one]at hA hcl
  have hu:=Tryz.underlying54
  have hic:i≤c:=by omega
  have hjc:j≤c:=by omega
  have AfV:¬(c=i+(n-j)):=by omega
  have hle1:i+(n-j)≤n:=by omega
  have hne:¬((i:Int)=(j:Int)):=by omega
  go_enter Tryz.func201,Tryz.ntmps201
  go_wp2_with fail
  go_region_law (refine D8 rfl _ _ 54 54 rfl (.slice (some ⟨b,0,none⟩) i c) (.slice (some A) (n-j) (c-j)) (by simp[Act.eval,Act.put]) (by simp[Act.eval,Act.put]) (hap _) ?_)
  go_wp2_with (refine DT _ rfl _ 54 rfl _ rfl (hcl _) ?_)
  go_ret
  exact⟨rfl,rfl⟩
abbrev Afv:=D5 1 16
abbrev Afw:=AcD 1
theorem AhR:AY Tryz.prog fun f' args s=>if f'=200 then Afv args s else none:=OT Afx Anq
theorem AhS:AY Tryz.prog fun f' args s=>if f'=201 then Afw args s else none:=OU Afx Anr
end
section
set_option linter.unusedSimpArgs false
open Go.RowKit Go.Lib
theorem AcF:NP Tryz.prog 26 44 6 80 (.agg #[.int .i64 0,.int .i64 0,.string ⟨#[]⟩,.string ⟨#[]⟩,.string ⟨#[]⟩,.string ⟨#[]⟩]) (.agg [.int .i64 0,.int .i64 0,.str [],.str [],.str [],.str []]) where
 pos:=by omega
 b0:=by omega
 hu:=Tryz.underlying26
 inf:=by kernel_rfl
 zt:=by kernel_rfl
 zs:=rfl
 z1:=by decide
set_option maxHeartbeats 4000000 in
set_option maxRecDepth 1000000 in
theorem AlI:Xk Tryz.prog 115 26 3 6 178 where
 fn:=⟨_,Tryz.func115,rfl,by decide⟩
 iu:=Tryz.underlying3
 fin:=by
  intro base n c vc va w w1 x hnil hnc hrun
  have hu:=Tryz.underlying26
  have hz1:¬((1:Int)=0):=by omega
  cases base with
  |none=>
   have h0:=hnil rfl
   subst h0
   go_enter Tryz.func115,Tryz.ntmps115
   go_wp2_with (at_builtin;refine Lib.wpList_append_run _ rfl _ _ _ _ rfl _ _ rfl rfl _ _ (hrun _) ?_)
   all_goals (go_ret;exact⟨rfl,rfl⟩)
  |some a=>
   obtain⟨ab,ao,asp⟩:=a
   go_enter Tryz.func115,Tryz.ntmps115
   go_wp2_with (at_builtin;refine Lib.wpList_append_run _ rfl _ _ _ _ rfl _ _ rfl rfl _ _ (hrun _) ?_)
   all_goals (go_ret;exact⟨rfl,rfl⟩)
 grow:=by
  intro b n c i vc G va w w1 w2 w3 hi hnc hroom hGn hG63 Abq hrz hcpA hcpB
  have hz1:¬((1:Int)=0):=by omega
  have hz2:¬((i:Int)=(n:Int)):=by omega
  have hz3:(c:Int)<(n:Int)+1:=by omega
  have hGi:¬(G=i):=by omega
  have AfS:¬(G=i+1):=by omega
  have hci:¬(c=i):=by omega
  have hw1:IntKind.i64.wrap ((i:Int)+1)=(i:Int)+1:=by rw[IntKind.wrap_i64];omega
  have hw2:IntKind.i64.wrap ((n:Int)+1)=(n:Int)+1:=by rw[IntKind.wrap_i64];omega
  have hw3:IntKind.i64.wrap ((n:Int)+1-(i:Int))=(n:Int)+1-(i:Int):=by rw[IntKind.wrap_i64];omega
  have hb1:(0:Int)≤(i:Int)+1:=by omega
  have hin:i≤n:=by omega
  have htn:((i:Int)+1).toNat=i+1:=by omega
  have hb3:(i:Int)≤(n:Int):=by omega
  have hb4:(i:Int)+1≤(n:Int)+1:=by omega
  have hic:i≤c:=by omega
  go_enter Tryz.func115,Tryz.ntmps115
  go_wp2_with (first
   |(at_builtin;refine Lib.wpList_append_run _ rfl _ _ _ _ rfl _ _ rfl rfl _ _ (hrz _) ?_)
   |(refine wpList_copy_runI _ rfl _ _ 26 26 rfl _ _ rfl rfl (hcpA _ _) ?_))
  go_region_law (refine step_copy_runI rfl _ _ 26 26 rfl (.slice (some ⟨w.heap.size,(i+1)*6,none⟩) (n+1-(i+1)) (G-(i+1))) (.slice (some ⟨b,i*6,none⟩) (n-i) (c-i)) (by simp[Act.eval,Act.put]) (by simp[Act.eval,Act.put]) (hcpB _ _ _) ?_)
  go_wp2
  go_ret
  exact⟨rfl,rfl⟩
 apart:=by
  intro b o vc lb cb va cur v t1 w hne hb hv hpos
  obtain⟨i0,hi0,hz0,hzs,hzb⟩:=info_parts AcF.inf
  obtain⟨tA,kA,k1,k2⟩:=LP hv
  rw[run_callFunc_extern Tryz.func178 (by kernel_rfl) (by kernel_rfl) (by kernel_rfl) (e:=Extern.SlicesOverlaps.overlaps #[26,26] #[4]) (by kernel_rfl),
   D7 w 26 4 44 Tryz.underlying26 6 (fun w=>by simp[sizeOf,typeInfo,hi0,hzs]) va ⟨b,o,none⟩ 1 vc lb cb hne tA t1 kA cur.size k1 (by simp[World.shape?,hb]) k2 (by simp[World.frozen?,hb]) (by simp[World.frozen?,hb])]
  rfl
 shift:=by
  intro b n c i vc va w w2 w3 hi hroom hc63 hov hcpA hcpB
  have hu:=Tryz.underlying26
  have hz1:¬((1:Int)=0):=by omega
  have hz2:¬((i:Int)=(n:Int)):=by omega
  have hz3:¬((c:Int)<(n:Int)+1):=by omega
  have hw1:IntKind.i64.wrap ((i:Int)+1)=(i:Int)+1:=by rw[IntKind.wrap_i64];omega
  have hw2:IntKind.i64.wrap ((n:Int)+1)=(n:Int)+1:=by rw[IntKind.wrap_i64];omega
  have hb1:(0:Int)≤(i:Int)+1:=by omega
  have hb0:(0:Int)≤(n:Int)+1:=by omega
  have hin:i≤n:=by omega
  have htn:((i:Int)+1).toNat=i+1:=by omega
  have AfT:((n:Int)+1).toNat=n+1:=by omega
  have hb3:(i:Int)≤(n:Int)+1:=by omega
  have hb4:(i:Int)+1≤(n:Int)+1:=by omega
  have hb5:(n:Int)+1≤(c:Int):=by omega
  have hci:¬(c=i):=by omega
  have AfU:¬(c=i+1):=by omega
  have hic:i≤c:=by omega
  go_enter Tryz.func115,Tryz.ntmps115
  go_wp2_with (simp only[hov])
  go_region_law (refine step_copy_runI rfl _ _ 26 26 rfl (.slice (some ⟨b,(i+1)*6,none⟩) (n+1-(i+1)) (c-(i+1))) (.slice (some ⟨b,i*6,none⟩) (n+1-i) (c-i)) (by simp[Act.eval,Act.put]) (by simp[Act.eval,Act.put]) (hcpA _ _ _) ?_)
  go_wp2_with (refine wpList_copy_runI _ rfl _ _ 26 26 rfl _ _ rfl rfl (hcpB _ _) ?_)
  go_ret
  exact⟨rfl,rfl⟩
set_option maxHeartbeats 4000000 in
set_option maxRecDepth 1000000 in
theorem AlJ:YO Tryz.prog 116 26 6 where
 fn:=⟨_,Tryz.func116,rfl,by decide⟩
 walk:=by
  intro b n c i j A w w2 w3 hij hj hnc hc63 hA hap hcl
  have hu:=Tryz.underlying26
  have hic:i≤c:=by omega
  have hjc:j≤c:=by omega
  have AfV:¬(c=i+(n-j)):=by omega
  have hle1:i+(n-j)≤n:=by omega
  have hne:¬((i:Int)=(j:Int)):=by omega
  go_enter Tryz.func116,Tryz.ntmps116
  go_wp2_with fail
  go_region_law (refine D8 rfl _ _ 26 26 rfl (.slice (some ⟨b,0,none⟩) i c) (.slice (some A) (n-j) (c-j)) (by simp[Act.eval,Act.put]) (by simp[Act.eval,Act.put]) (hap _) ?_)
  go_wp2_with (refine DT _ rfl _ 26 rfl _ rfl (hcl _) ?_)
  go_ret
  exact⟨rfl,rfl⟩
abbrev VU:=D5 6 80
abbrev YP:=AcD 6
theorem AfW:AY Tryz.prog fun f' args s=>if f'=115 then VU args s else none:=OT AcF AlI
theorem AfX:AY Tryz.prog fun f' args s=>if f'=116 then YP args s else none:=OU AcF AlJ
end
end AI
end Go.Proofs.YtjijnamhalgamaaGreatDoor
