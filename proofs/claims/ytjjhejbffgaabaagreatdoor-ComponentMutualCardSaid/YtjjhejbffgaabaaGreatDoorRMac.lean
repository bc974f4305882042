/- Steps at which a walk through slices.Delete takes a run from outside. slices.Insert and slices.Delete at api.Node: the walks. slices.Insert and slices.Delete at api.Edge: the walks. slices.Insert and slices.Delete at api.Prop: the walks. slices.Insert and slices.Delete at string: the walks. -/
import Derived.Test.YtjjhejbffgaabaaGreatDoorRInG
import Derived.Test.YtjjhejbffgaabaaGreatDoorChecked
import Derived.Deep.RegionLaw
set_option linter.unusedVariables false
set_option maxRecDepth 4000
namespace Go.Proofs.YtjjhejbffgaabaaGreatDoor
namespace AI
section
open Go.RowKit Go.Lib
theorem ER {P:Program} {ops:Array Oper} {o:Oper} {a:Act} {w:World} {K:Act→World→Prop} {Q:Exit→Act→World→Prop} {E:Prop}
 (hg:o.guard=none) (d x:Operand) (dT sT:TypeId) (hop:o.op=Op.call {callee:=Callee.builtin Builtin.append,args:=#[d,x],argTypes:=#[dT,sT]})
 (v u:Value) (hd:a.eval d=v) (hx:a.eval x=u) {v':Value} {w':World} (hr:(Builtin.append_ #[dT,sT] o.type #[v,u]).run P w=.ok v' w') (hK:K (a.put o.dst v') w'):
 if Region.wanted o (yielded ops a.tmps)=true then Oper.wp P o a w K Q else E:=by
 have hw:Region.wanted o (yielded ops a.tmps)=true:=by simp[Region.wanted,hg]
 rw[if_pos hw]
 unfold Oper.wp
 simp[execOp,hop,resolve,invoke,builtin,hd,hx,hr,Result.andThen]
 exact hK
theorem RZ {P:Program} (w:World) {o:Oper} {a:Act} {K:Act→World→Prop} {Q:Exit→Act→World→Prop} (d:Operand) (t:TypeId)
 (ho:o.op=.call {callee:=.builtin .clear,args:=#[d],argTypes:=#[t]}) (v:Value) (hd:a.eval d=v) {v':Value} {w':World}
 (hr:(Builtin.clear_ #[t] o.type #[v]).run P w=.ok v' w') (h:K (a.put o.dst v') w'):o.wp P a w K Q:=by
 unfold Oper.wp execOp
 simp only[ho,resolve,invoke,builtin,Sem.run_bind,Sem.run_pure,Result.andThen_ok,List.map_toArray,List.map_cons,List.map_nil,hd,hr]
 exact h
theorem Ey {P:Program} (w:World) {ops:Array Oper} {rest:List Oper} {o:Oper} {a:Act} {Q:Exit→Act→World→Prop} (hgd:o.guard=none) (d:Operand) (t:TypeId)
 (ho:o.op=.call {callee:=.builtin .clear,args:=#[d],argTypes:=#[t]}) (v:Value) (hd:a.eval d=v) {v':Value} {w':World}
 (hr:(Builtin.clear_ #[t] o.type #[v]).run P w=.ok v' w') (h:wpList P ops Q rest (a.put o.dst v') w'):wpList P ops Q (o::rest) a w:=
 wpList_plain hgd fun _ hK=>RZ w d t ho v hd hr (hK _ _ h)
end
section
set_option linter.unusedSimpArgs false
open Go.RowKit Go.Lib
theorem Abs:NP Tryz.prog 22 41 3 56 (.agg #[.int .i64 0,.slice none 0 0,.slice none 0 0]) (.agg [.int .i64 0,.sl false [],.sl false []]) where
 pos:=by omega
 b0:=by omega
 hu:=Tryz.underlying22
 inf:=by kernel_rfl
 zt:=by kernel_rfl
 zs:=rfl
 z1:=by decide
set_option maxHeartbeats 4000000 in
set_option maxRecDepth 1000000 in
theorem Ah4:XI Tryz.prog 153 22 3 3 171 where
 fn:=⟨_,Tryz.func153,rfl,by decide⟩
 iu:=Tryz.underlying3
 fin:=by
  intro base n c vc va w w1 x hnil hnc hrun
  have hu:=Tryz.underlying22
  have hz1:¬((1:Int)=0):=by omega
  cases base with
  |none=>
   have h0:=hnil rfl
   subst h0
   go_enter Tryz.func153,Tryz.ntmps153
   go_wp2_with (at_builtin;refine Lib.wpList_append_run _ rfl _ _ _ _ rfl _ _ rfl rfl _ _ (hrun _) ?_)
   all_goals (go_ret;exact⟨rfl,rfl⟩)
  |some a=>
   obtain⟨ab,ao,asp⟩:=a
   go_enter Tryz.func153,Tryz.ntmps153
   go_wp2_with (at_builtin;refine Lib.wpList_append_run _ rfl _ _ _ _ rfl _ _ rfl rfl _ _ (hrun _) ?_)
   all_goals (go_ret;exact⟨rfl,rfl⟩)
 grow:=by
  intro b n c i vc G va w w1 w2 w3 hi hnc hroom hGn hG63 Abt hrz hcpA hcpB
  have hz1:¬((1:Int)=0):=by omega
  have hz2:¬((i:Int)=(n:Int)):=by omega
  have hz3:(c:Int)<(n:Int)+1:=by omega
  have hGi:¬(G=i):=by omega
  have Af6:¬(G=i+1):=by omega
  have hci:¬(c=i):=by omega
  have hw1:IntKind.i64.wrap ((i:Int)+1)=(i:Int)+1:=by rw[IntKind.wrap_i64];omega
  have hw2:IntKind.i64.wrap ((n:Int)+1)=(n:Int)+1:=by rw[IntKind.wrap_i64];omega
  have hw3:IntKind.i64.wrap ((n:Int)+1-(i:Int))=(n:Int)+1-(i:Int):=by rw[IntKind.wrap_i64];omega
  have hb1:(0:Int)≤(i:Int)+1:=by omega
  have hin:i≤n:=by omega
  have htn:((i:Int)+1).toNat=i+1:=by omega
  have hb3:(i:Int)≤(n:Int):=by omega
  have hb4:(i:Int)+1≤(n:Int)+1:=by omega
  have hic:i≤c:=by omega
  go_enter Tryz.func153,Tryz.ntmps153
  go_wp2_with (first
   |(at_builtin;refine Lib.wpList_append_run _ rfl _ _ _ _ rfl _ _ rfl rfl _ _ (hrz _) ?_)
   |(refine wpList_copy_runI _ rfl _ _ 22 22 rfl _ _ rfl rfl (hcpA _ _) ?_))
  go_region_law (refine step_copy_runI rfl _ _ 22 22 rfl (.slice (some ⟨w.heap.size,(i+1)*3,none⟩) (n+1-(i+1)) (G-(i+1))) (.slice (some ⟨b,i*3,none⟩) (n-i) (c-i)) (by simp[Act.eval,Act.put]) (by simp[Act.eval,Act.put]) (hcpB _ _ _) ?_)
  go_wp2
  go_ret
  exact⟨rfl,rfl⟩
 apart:=by
  intro b o vc lb cb va cur v t1 w hne hb hv hpos
  obtain⟨i0,hi0,hz0,hzs,hzb⟩:=info_parts Abs.inf
  obtain⟨tA,kA,k1,k2⟩:=NQ hv
  rw[run_callFunc_extern Tryz.func171 (by kernel_rfl) (by kernel_rfl) (by kernel_rfl) (e:=Extern.SlicesOverlaps.overlaps #[22,22] #[4]) (by kernel_rfl),
   EW w 22 4 41 Tryz.underlying22 3 (fun w=>by simp[sizeOf,typeInfo,hi0,hzs]) va ⟨b,o,none⟩ 1 vc lb cb hne tA t1 kA cur.size k1 (by simp[World.shape?,hb]) k2 (by simp[World.frozen?,hb]) (by simp[World.frozen?,hb])]
  rfl
 shift:=by
  intro b n c i vc va w w2 w3 hi hroom hc63 hov hcpA hcpB
  have hu:=Tryz.underlying22
  have hz1:¬((1:Int)=0):=by omega
  have hz2:¬((i:Int)=(n:Int)):=by omega
  have hz3:¬((c:Int)<(n:Int)+1):=by omega
  have hw1:IntKind.i64.wrap ((i:Int)+1)=(i:Int)+1:=by rw[IntKind.wrap_i64];omega
  have hw2:IntKind.i64.wrap ((n:Int)+1)=(n:Int)+1:=by rw[IntKind.wrap_i64];omega
  have hb1:(0:Int)≤(i:Int)+1:=by omega
  have hb0:(0:Int)≤(n:Int)+1:=by omega
  have hin:i≤n:=by omega
  have htn:((i:Int)+1).toNat=i+1:=by omega
  have Af7:((n:Int)+1).toNat=n+1:=by omega
  have hb3:(i:Int)≤(n:Int)+1:=by omega
  have hb4:(i:Int)+1≤(n:Int)+1:=by omega
  have hb5:(n:Int)+1≤(c:Int):=by omega
  have hci:¬(c=i):=by omega
  have Af8:¬(c=i+1):=by omega
  have hic:i≤c:=by omega
  go_enter Tryz.func153,Tryz.ntmps153
  go_wp2_with (simp only[hov])
  go_region_law (refine step_copy_runI rfl _ _ 22 22 rfl (.slice (some ⟨b,(i+1)*3,none⟩) (n+1-(i+1)) (c-(i+1))) (.slice (some ⟨b,i*3,none⟩) (n+1-i) (c-i)) (by simp[Act.eval,Act.put]) (by simp[Act.eval,Act.put]) (hcpA _ _ _) ?_)
  go_wp2_with (refine wpList_copy_runI _ rfl _ _ 22 22 rfl _ _ rfl rfl (hcpB _ _) ?_)
  go_ret
  exact⟨rfl,rfl⟩
set_option maxHeartbeats 4000000 in
set_option maxRecDepth 1000000 in
theorem Ah5:ZM Tryz.prog 154 22 3 where
 fn:=⟨_,Tryz.func154,rfl,by decide⟩
 walk:=by
  intro b n c i j A w w2 w3 hij hj hnc hc63 hA hap hcl
  have hu:=Tryz.underlying22
  have hic:i≤c:=by omega
  have hjc:j≤c:=by omega
  have Af9:¬(c=i+(n-j)):=by omega
  have hle1:i+(n-j)≤n:=by omega
  have hne:¬((i:Int)=(j:Int)):=by omega
  go_enter Tryz.func154,Tryz.ntmps154
  go_wp2_with fail
  go_region_law (refine ER rfl _ _ 22 22 rfl (.slice (some ⟨b,0,none⟩) i c) (.slice (some A) (n-j) (c-j)) (by simp[Act.eval,Act.put]) (by simp[Act.eval,Act.put]) (hap _) ?_)
  go_wp2_with (refine Ey _ rfl _ 22 rfl _ rfl (hcl _) ?_)
  go_ret
  exact⟨rfl,rfl⟩
abbrev AaV:=JO 3 56
abbrev AaW:=delSpec 3
theorem Adn:Am Tryz.prog fun f' args s=>if f'=153 then AaV args s else none:=Qd Abs Ah4
theorem Ado:Am Tryz.prog fun f' args s=>if f'=154 then AaW args s else none:=Qe Abs Ah5
end
section
set_option linter.unusedSimpArgs false
open Go.RowKit Go.Lib
theorem Ac4:NP Tryz.prog 23 43 5 64 (.agg #[.int .i64 0,.int .i64 0,.int .i64 0,.string ⟨#[]⟩,.slice none 0 0]) (.agg [.int .i64 0,.int .i64 0,.int .i64 0,.str [],.sl false []]) where
 pos:=by omega
 b0:=by omega
 hu:=Tryz.underlying23
 inf:=by kernel_rfl
 zt:=by kernel_rfl
 zs:=rfl
 z1:=by decide
set_option maxHeartbeats 4000000 in
set_option maxRecDepth 1000000 in
theorem Ajb:XI Tryz.prog 160 23 3 5 184 where
 fn:=⟨_,Tryz.func160,rfl,by decide⟩
 iu:=Tryz.underlying3
 fin:=by
  intro base n c vc va w w1 x hnil hnc hrun
  have hu:=Tryz.underlying23
  have hz1:¬((1:Int)=0):=by omega
  cases base with
  |none=>
   have h0:=hnil rfl
   subst h0
   go_enter Tryz.func160,Tryz.ntmps160
   go_wp2_with (at_builtin;refine Lib.wpList_append_run _ rfl _ _ _ _ rfl _ _ rfl rfl _ _ (hrun _) ?_)
   all_goals (go_ret;exact⟨rfl,rfl⟩)
  |some a=>
   obtain⟨ab,ao,asp⟩:=a
   go_enter Tryz.func160,Tryz.ntmps160
   go_wp2_with (at_builtin;refine Lib.wpList_append_run _ rfl _ _ _ _ rfl _ _ rfl rfl _ _ (hrun _) ?_)
   all_goals (go_ret;exact⟨rfl,rfl⟩)
 grow:=by
  intro b n c i vc G va w w1 w2 w3 hi hnc hroom hGn hG63 Abt hrz hcpA hcpB
  have hz1:¬((1:Int)=0):=by omega
  have hz2:¬((i:Int)=(n:Int)):=by omega
  have hz3:(c:Int)<(n:Int)+1:=by omega
  have hGi:¬(G=i):=by omega
  have Af6:¬(G=i+1):=by omega
  have hci:¬(c=i):=by omega
  have hw1:IntKind.i64.wrap ((i:Int)+1)=(i:Int)+1:=by rw[IntKind.wrap_i64];omega
  have hw2:IntKind.i64.wrap ((n:Int)+1)=(n:Int)+1:=by rw[IntKind.wrap_i64];omega
  have hw3:IntKind.i64.wrap ((n:Int)+1-(i:Int))=(n:Int)+1-(i:Int):=by rw[IntKind.wrap_i64];omega
  have hb1:(0:Int)≤(i:Int)+1:=by omega
  have hin:i≤n:=by omega
  have htn:((i:Int)+1).toNat=i+1:=by omega
  have hb3:(i:Int)≤(n:Int):=by omega
  have hb4:(i:Int)+1≤(n:Int)+1:=by omega
  have hic:i≤c:=by omega
  go_enter Tryz.func160,Tryz.ntmps160
  go_wp2_with (first
   |(at_builtin;refine Lib.wpList_append_run _ rfl _ _ _ _ rfl _ _ rfl rfl _ _ (hrz _) ?_)
   |(refine wpList_copy_runI _ rfl _ _ 23 23 rfl _ _ rfl rfl (hcpA _ _) ?_))
  go_region_law (refine step_copy_runI rfl _ _ 23 23 rfl (.slice (some ⟨w.heap.size,(i+1)*5,none⟩) (n+1-(i+1)) (G-(i+1))) (.slice (some ⟨b,i*5,none⟩) (n-i) (c-i)) (by simp[Act.eval,Act.put]) (by simp[Act.eval,Act.put]) (hcpB _ _ _) ?_)
  go_wp2
  go_ret
  exact⟨rfl,rfl⟩
 apart:=by
  intro b o vc lb cb va cur v t1 w hne hb hv hpos
  obtain⟨i0,hi0,hz0,hzs,hzb⟩:=info_parts Ac4.inf
  obtain⟨tA,kA,k1,k2⟩:=NQ hv
  rw[run_callFunc_extern Tryz.func184 (by kernel_rfl) (by kernel_rfl) (by kernel_rfl) (e:=Extern.SlicesOverlaps.overlaps #[23,23] #[4]) (by kernel_rfl),
   EW w 23 4 43 Tryz.underlying23 5 (fun w=>by simp[sizeOf,typeInfo,hi0,hzs]) va ⟨b,o,none⟩ 1 vc lb cb hne tA t1 kA cur.size k1 (by simp[World.shape?,hb]) k2 (by simp[World.frozen?,hb]) (by simp[World.frozen?,hb])]
  rfl
 shift:=by
  intro b n c i vc va w w2 w3 hi hroom hc63 hov hcpA hcpB
  have hu:=Tryz.underlying23
  have hz1:¬((1:Int)=0):=by omega
  have hz2:¬((i:Int)=(n:Int)):=by omega
  have hz3:¬((c:Int)<(n:Int)+1):=by omega
  have hw1:IntKind.i64.wrap ((i:Int)+1)=(i:Int)+1:=by rw[IntKind.wrap_i64];omega
  have hw2:IntKind.i64.wrap ((n:Int)+1)=(n:Int)+1:=by rw[IntKind.wrap_i64];omega
  have hb1:(0:Int)≤(i:Int)+1:=by omega
  have hb0:(0:Int)≤(n:Int)+1:=by omega
  have hin:i≤n:=by omega
  have htn:((i:Int)+1).toNat=i+1:=by omega
  have Af7:((n:Int)+1).toNat=n+1:=by omega
  have hb3:(i:Int)≤(n:Int)+1:=by omega
  have hb4:(i:Int)+1≤(n:Int)+1:=by omega
  have hb5:(n:Int)+1≤(c:Int):=by omega
  have hci:¬(c=i):=by omega
  have Af8:¬(c=i+1):=by omega
  have hic:i≤c:=by omega
  go_enter Tryz.func160,Tryz.ntmps160
  go_wp2_with (simp only[hov])
  go_region_law (refine step_copy_runI rfl _ _ 23 23 rfl (.slice (some ⟨b,(i+1)*5,none⟩) (n+1-(i+1)) (c-(i+1))) (.slice (some ⟨b,i*5,none⟩) (n+1-i) (c-i)) (by simp[Act.eval,Act.put]) (by simp[Act.eval,Act.put]) (hcpA _ _ _) ?_)
  go_wp2_with (refine wpList_copy_runI _ rfl _ _ 23 23 rfl _ _ rfl rfl (hcpB _ _) ?_)
  go_ret
  exact⟨rfl,rfl⟩
set_option maxHeartbeats 4000000 in
set_option maxRecDepth 1000000 in
theorem Ajc:ZM Tryz.prog 161 23 5 where
 fn:=⟨_,Tryz.func161,rfl,by decide⟩
 walk:=by
  intro b n c i j A w w2 w3 hij hj hnc hc63 hA hap hcl
  have hu:=Tryz.underlying23
  have hic:i≤c:=by omega
  have hjc:j≤c:=by omega
  have Af9:¬(c=i+(n-j)):=by omega
  have hle1:i+(n-j)≤n:=by omega
  have hne:¬((i:Int)=(j:Int)):=by omega
  go_enter Tryz.func161,Tryz.ntmps161
  go_wp2_with fail
  go_region_law (refine ER rfl _ _ 23 23 rfl (.slice (some ⟨b,0,none⟩) i c) (.slice (some A) (n-j) (c-j)) (by simp[Act.eval,Act.put]) (by simp[Act.eval,Act.put]) (hap _) ?_)
  go_wp2_with (refine Ey _ rfl _ 23 rfl _ rfl (hcl _) ?_)
  go_ret
  exact⟨rfl,rfl⟩
abbrev AaX:=JO 5 64
abbrev AaY:=delSpec 5
theorem Adp:Am Tryz.prog fun f' args s=>if f'=160 then AaX args s else none:=Qd Ac4 Ajb
theorem Adq:Am Tryz.prog fun f' args s=>if f'=161 then AaY args s else none:=Qe Ac4 Ajc
end
section
set_option linter.unusedSimpArgs false
open Go.RowKit Go.Lib
theorem Acv:NP Tryz.prog 39 109 6 80 (.agg #[.string ⟨#[]⟩,.int .i64 0,.int .i64 0,.int .i64 0,.string ⟨#[]⟩,.slice none 0 0]) (.agg [.str [],.int .i64 0,.int .i64 0,.int .i64 0,.str [],.sl false []]) where
 pos:=by omega
 b0:=by omega
 hu:=Tryz.underlying39
 inf:=by kernel_rfl
 zt:=by kernel_rfl
 zs:=rfl
 z1:=by decide
set_option maxHeartbeats 4000000 in
set_option maxRecDepth 1000000 in
theorem AiR:XI Tryz.prog 181 39 3 6 199 where
 fn:=⟨_,Tryz.func181,rfl,by decide⟩
 iu:=Tryz.underlying3
 fin:=by
  intro base n c vc va w w1 x hnil hnc hrun
  have hu:=Tryz.underlying39
  have hz1:¬((1:Int)=0):=by omega
  cases base with
  |none=>
   have h0:=hnil rfl
   subst h0
   go_enter Tryz.func181,Tryz.ntmps181
   go_wp2_with (at_builtin;refine Lib.wpList_append_run _ rfl _ _ _ _ rfl _ _ rfl rfl _ _ (hrun _) ?_)
   all_goals (go_ret;exact⟨rfl,rfl⟩)
  |some a=>
   obtain⟨ab,ao,asp⟩:=a
   go_enter Tryz.func181,Tryz.ntmps181
   go_wp2_with (at_builtin;refine Lib.wpList_append_run _ rfl _ _ _ _ rfl _ _ rfl rfl _ _ (hrun _) ?_)
   all_goals (go_ret;exact⟨rfl,rfl⟩)
 grow:=by
  intro b n c i vc G va w w1 w2 w3 hi hnc hroom hGn hG63 Abt hrz hcpA hcpB
  have hz1:¬((1:Int)=0):=by omega
  have hz2:¬((i:Int)=(n:Int)):=by omega
  have hz3:(c:Int)<(n:Int)+1:=by omega
  have hGi:¬(G=i):=by omega
  have Af6:¬(G=i+1):=by omega
  have hci:¬(c=i):=by omega
  have hw1:IntKind.i64.wrap ((i:Int)+1)=(i:Int)+1:=by rw[IntKind.wrap_i64];omega
  have hw2:IntKind.i64.wrap ((n:Int)+1)=(n:Int)+1:=by rw[IntKind.wrap_i64];omega
  have hw3:IntKind.i64.wrap ((n:Int)+1-(i:Int))=(n:Int)+1-(i:Int):=by rw[IntKind.wrap_i64];omega
  have hb1:(0:Int)≤(i:Int)+1:=by omega
  have hin:i≤n:=by omega
  have htn:((i:Int)+1).toNat=i+1:=by omega
  have hb3:(i:Int)≤(n:Int):=by omega
  have hb4:(i:Int)+1≤(n:Int)+1:=by omega
  have hic:i≤c:=by omega
  go_enter Tryz.func181,Tryz.ntmps181
  go_wp2_with (first
   |(at_builtin;refine Lib.wpList_append_run _ rfl _ _ _ _ rfl _ _ rfl rfl _ _ (hrz _) ?_)
   |(refine wpList_copy_runI _ rfl _ _ 39 39 rfl _ _ rfl rfl (hcpA _ _) ?_))
  go_region_law (refine step_copy_runI rfl _ _ 39 39 rfl (.slice (some ⟨w.heap.size,(i+1)*6,none⟩) (n+1-(i+1)) (G-(i+1))) (.slice (some ⟨b,i*6,none⟩) (n-i) (c-i)) (by simp[Act.eval,Act.put]) (by simp[Act.eval,Act.put]) (hcpB _ _ _) ?_)
  go_wp2
  go_ret
  exact⟨rfl,rfl⟩
 apart:=by
  intro b o vc lb cb va cur v t1 w hne hb hv hpos
  obtain⟨i0,hi0,hz0,hzs,hzb⟩:=info_parts Acv.inf
  obtain⟨tA,kA,k1,k2⟩:=NQ hv
  rw[run_callFunc_extern Tryz.func199 (by kernel_rfl) (by kernel_rfl) (by kernel_rfl) (e:=Extern.SlicesOverlaps.overlaps #[39,39] #[4]) (by kernel_rfl),
   EW w 39 4 109 Tryz.underlying39 6 (fun w=>by simp[sizeOf,typeInfo,hi0,hzs]) va ⟨b,o,none⟩ 1 vc lb cb hne tA t1 kA cur.size k1 (by simp[World.shape?,hb]) k2 (by simp[World.frozen?,hb]) (by simp[World.frozen?,hb])]
  rfl
 shift:=by
  intro b n c i vc va w w2 w3 hi hroom hc63 hov hcpA hcpB
  have hu:=Tryz.underlying39
  have hz1:¬((1:Int)=0):=by omega
  have hz2:¬((i:Int)=(n:Int)):=by omega
  have hz3:¬((c:Int)<(n:Int)+1):=by omega
  have hw1:IntKind.i64.wrap ((i:Int)+1)=(i:Int)+1:=by rw[IntKind.wrap_i64];omega
  have hw2:IntKind.i64.wrap ((n:Int)+1)=(n:Int)+1:=by rw[IntKind.wrap_i64];omega
  have hb1:(0:Int)≤(i:Int)+1:=by omega
  have hb0:(0:Int)≤(n:Int)+1:=by omega
  have hin:i≤n:=by omega
  have htn:((i:Int)+1).toNat=i+1:=by omega
  have Af7:((n:Int)+1).toNat=n+1:=by omega
  have hb3:(i:Int)≤(n:Int)+1:=by omega
  have hb4:(i:Int)+1≤(n:Int)+1:=by omega
  have hb5:(n:Int)+1≤(c:Int):=by omega
  have hci:¬(c=i):=by omega
  have Af8:¬(c=i+1):=by omega
  have hic:i≤c:=by omega
  go_enter Tryz.func181,Tryz.ntmps181
  go_wp2_with (simp only[hov])
  go_region_law (refine step_copy_runI rfl _ _ 39 39 rfl (.slice (some ⟨b,(i+1)*6,none⟩) (n+1-(i+1)) (c-(i+1))) (.slice (some ⟨b,i*6,none⟩) (n+1-i) (c-i)) (by simp[Act.eval,Act.put]) (by simp[Act.eval,Act.put]) (hcpA _ _ _) ?_)
  go_wp2_with (refine wpList_copy_runI _ rfl _ _ 39 39 rfl _ _ rfl rfl (hcpB _ _) ?_)
  go_ret
  exact⟨rfl,rfl⟩
set_option maxHeartbeats 4000000 in
set_option maxRecDepth 1000000 in
theorem AiS:ZM Tryz.prog 180 39 6 where
 fn:=⟨_,Tryz.func180,rfl,by decide⟩
 walk:=by
  intro b n c i j A w w2 w3 hij hj hnc hc63 hA hap hcl
  have hu:=Tryz.underlying39
  have hic:i≤c:=by omega
  have hjc:j≤c:=by omega
  have Af9:¬(c=i+(n-j)):=by omega
  have hle1:i+(n-j)≤n:=by omega
  have hne:¬((i:Int)=(j:Int)):=by omega
  go_enter Tryz.func180,Tryz.ntmps180
  go_wp2_with fail
  go_region_law (refine ER rfl _ _ 39 39 rfl (.slice (some ⟨b,0,none⟩) i c) (.slice (some A) (n-j) (c-j)) (by simp[Act.eval,Act.put]) (by simp[Act.eval,Act.put]) (hap _) ?_)
  go_wp2_with (refine Ey _ rfl _ 39 rfl _ rfl (hcl _) ?_)
  go_ret
  exact⟨rfl,rfl⟩
abbrev AaZ:=JO 6 80
abbrev Aa0:=delSpec 6
theorem Adr:Am Tryz.prog fun f' args s=>if f'=181 then AaZ args s else none:=Qd Acv AiR
theorem Ads:Am Tryz.prog fun f' args s=>if f'=180 then Aa0 args s else none:=Qe Acv AiS
end
section
set_option linter.unusedSimpArgs false
open Go.RowKit Go.Lib
theorem AcR:NP Tryz.prog 26 9 1 16 (.string ⟨#[]⟩) (.str []) where
 pos:=by omega
 b0:=by omega
 hu:=Tryz.underlying26
 inf:=by kernel_rfl
 zt:=by kernel_rfl
 zs:=rfl
 z1:=by decide
set_option maxHeartbeats 4000000 in
set_option maxRecDepth 1000000 in
theorem Ai7:XI Tryz.prog 156 26 3 1 175 where
 fn:=⟨_,Tryz.func156,rfl,by decide⟩
 iu:=Tryz.underlying3
 fin:=by
  intro base n c vc va w w1 x hnil hnc hrun
  have hu:=Tryz.underlying26
  have hz1:¬((1:Int)=0):=by omega
  cases base with
  |none=>
   have h0:=hnil rfl
   subst h0
   go_enter Tryz.func156,Tryz.ntmps156
   go_wp2_with (at_builtin;refine Lib.wpList_append_run _ rfl _ _ _ _ rfl _ _ rfl rfl _ _ (hrun _) ?_)
   all_goals (go_ret;exact⟨rfl,rfl⟩)
  |some a=>
   obtain⟨ab,ao,asp⟩:=a
   go_enter Tryz.func156,Tryz.ntmps156
   go_wp2_with (at_builtin;refine Lib.wpList_append_run _ rfl _ _ _ _ rfl _ _ rfl rfl _ _ (hrun _) ?_)
   all_goals (go_ret;exact⟨rfl,rfl⟩)
 grow:=by
  intro b n c i vc G va w w1 w2 w3 hi hnc hroom hGn hG63 Abt hrz hcpA hcpB
  simp only[Nat.mul_one]at hcpA hcpB
  have hz1:¬((1:Int)=0):=by omega
  have hz2:¬((i:Int)=(n:Int)):=by omega
  have hz3:(c:Int)<(n:Int)+1:=by omega
  have hGi:¬(G=i):=by omega
  have Af6:¬(G=i+1):=by omega
  have hci:¬(c=i):=by omega
  have hw1:IntKind.i64.wrap ((i:Int)+1)=(i:Int)+1:=by rw[IntKind.wrap_i64];omega
  have hw2:IntKind.i64.wrap ((n:Int)+1)=(n:Int)+1:=by rw[IntKind.wrap_i64];omega
  have hw3:IntKind.i64.wrap ((n:Int)+1-(i:Int))=(n:Int)+1-(i:Int):=by rw[IntKind.wrap_i64];omega
  have hb1:(0:Int)≤(i:Int)+1:=by omega
  have hin:i≤n:=by omega
  have htn:((i:Int)+1).toNat=i+1:=by omega
  have hb3:(i:Int)≤(n:Int):=by omega
  have hb4:(i:Int)+1≤(n:Int)+1:=by omega
  have hic:i≤c:=by omega
  go_enter Tryz.func156,Tryz.ntmps156
  go_wp2_with (first
   |(at_builtin;refine Lib.wpList_append_run _ rfl _ _ _ _ rfl _ _ rfl rfl _ _ (hrz _) ?_)
   |(refine wpList_copy_runI _ rfl _ _ 26 26 rfl _ _ rfl rfl (hcpA _ _) ?_))
  go_region_law (refine step_copy_runI rfl _ _ 26 26 rfl (.slice (some ⟨w.heap.size,(i+1),none⟩) (n+1-(i+1)) (G-(i+1))) (.slice (some ⟨b,i,none⟩) (n-i) (c-i)) (by simp[Act.eval,Act.put]) (by simp[Act.eval,Act.put]) (hcpB _ _ _) ?_)
  go_wp2
  go_ret
  exact⟨rfl,rfl⟩
 apart:=by
  intro b o vc lb cb va cur v t1 w hne hb hv hpos
  obtain⟨i0,hi0,hz0,hzs,hzb⟩:=info_parts AcR.inf
  obtain⟨tA,kA,k1,k2⟩:=NQ hv
  rw[run_callFunc_extern Tryz.func175 (by kernel_rfl) (by kernel_rfl) (by kernel_rfl) (e:=Extern.SlicesOverlaps.overlaps #[26,26] #[4]) (by kernel_rfl),
   EW w 26 4 9 Tryz.underlying26 1 (fun w=>by simp[sizeOf,typeInfo,hi0,hzs]) va ⟨b,o,none⟩ 1 vc lb cb hne tA t1 kA cur.size k1 (by simp[World.shape?,hb]) k2 (by simp[World.frozen?,hb]) (by simp[World.frozen?,hb])]
  rfl
 shift:=by
  intro b n c i vc va w w2 w3 hi hroom hc63 hov hcpA hcpB
  simp only[Nat.mul_one]at hov hcpA hcpB
  have hu:=Tryz.underlying26
  have hz1:¬((1:Int)=0):=by omega
  have hz2:¬((i:Int)=(n:Int)):=by omega
  have hz3:¬((c:Int)<(n:Int)+1):=by omega
  have hw1:IntKind.i64.wrap ((i:Int)+1)=(i:Int)+1:=by rw[IntKind.wrap_i64];omega
  have hw2:IntKind.i64.wrap ((n:Int)+1)=(n:Int)+1:=by rw[IntKind.wrap_i64];omega
  have hb1:(0:Int)≤(i:Int)+1:=by omega
  have hb0:(0:Int)≤(n:Int)+1:=by omega
  have hin:i≤n:=by omega
  have htn:((i:Int)+1).toNat=i+1:=by omega
  have Af7:((n:Int)+1).toNat=n+1:=by omega
  have hb3:(i:Int)≤(n:Int)+1:=by omega
  have hb4:(i:Int)+1≤(n:Int)+1:=by omega
  have hb5:(n:Int)+1≤(c:Int):=by omega
  have hci:¬(c=i):=by omega
  have Af8:¬(c=i+1):=by omega
  have hic:i≤c:=by omega
  go_enter Tryz.func156,Tryz.ntmps156
  go_wp2_with (simp only[hov])
  go_region_law (refine step_copy_runI rfl _ _ 26 26 rfl (.slice (some ⟨b,(i+1),none⟩) (n+1-(i+1)) (c-(i+1))) (.slice (some ⟨b,i,none⟩) (n+1-i) (c-i)) (by simp[Act.eval,Act.put]) (by simp[Act.eval,Act.put]) (hcpA _ _ _) ?_)
  go_wp2_with (refine wpList_copy_runI _ rfl _ _ 26 26 rfl _ _ rfl rfl (hcpB _ _) ?_)
  go_ret
  exact⟨rfl,rfl⟩
set_option maxHeartbeats 4000000 in
set_option maxRecDepth 1000000 in
theorem Ai8:ZM Tryz.prog 157 26 1 where
 fn:=⟨_,Tryz.func157,rfl,by decide⟩
 walk:=by
  intro b n c i j A w w2 w3 hij hj hnc hc63 hA hap hcl
  simp only[Nat.mul_one]at hA hcl
  have hu:=Tryz.underlying26
  have hic:i≤c:=by omega
  have hjc:j≤c:=by omega
  have Af9:¬(c=i+(n-j)):=by omega
  have hle1:i+(n-j)≤n:=by omega
  have hne:¬((i:Int)=(j:Int)):=by omega
  go_enter Tryz.func157,Tryz.ntmps157
  go_wp2_with fail
  go_region_law (refine ER rfl _ _ 26 26 rfl (.slice (some ⟨b,0,none⟩) i c) (.slice (some A) (n-j) (c-j)) (by simp[Act.eval,Act.put]) (by simp[Act.eval,Act.put]) (hap _) ?_)
  go_wp2_with (refine Ey _ rfl _ 26 rfl _ rfl (hcl _) ?_)
  go_ret
  exact⟨rfl,rfl⟩
abbrev Aa1:=JO 1 16
abbrev Aa2:=delSpec 1
theorem Adt:Am Tryz.prog fun f' args s=>if f'=156 then Aa1 args s else none:=Qd AcR Ai7
theorem Adu:Am Tryz.prog fun f' args s=>if f'=157 then Aa2 args s else none:=Qe AcR Ai8
end
end AI
end Go.Proofs.YtjjhejbffgaabaaGreatDoor
