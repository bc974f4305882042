/- slices.Insert and slices.Delete at api.Node: the walks. -/
import Derived.Test.YtgmgkkbpgndaaaaGreatDoorChecked
import Derived.Test.YtgmgkkbpgndaaaaGreatDoorInH
import Derived.Deep.RegionLaw
set_option linter.unusedVariables false
set_option maxRecDepth 4000
set_option linter.unusedSimpArgs false
namespace Go.Proofs.YtgmgkkbpgndaaaaGreatDoor
namespace AI
open Go.RowKit Go.Lib
theorem elemN:ElemT Tryz.prog 27 55 3 56 (.agg #[.int .i64 0,.slice none 0 0,.slice none 0 0]) (.agg [.int .i64 0,.sl false [],.sl false []]) where
 pos:=by omega
 b0:=by omega
 hu:=Tryz.underlying27
 inf:=by kernel_rfl
 zt:=by kernel_rfl
 zs:=rfl
 z1:=by decide
set_option maxHeartbeats 4000000 in
set_option maxRecDepth 1000000 in
theorem insFN:InsF Tryz.prog 128 27 3 3 148 where
 fn:=⟨_,Tryz.func128,rfl,by decide⟩
 iu:=Tryz.underlying3
 fin:=by
  intro base n c vc va w w1 x hnil hnc hrun
  have hu:=Tryz.underlying27
  have hz1:¬((1:Int)=0):=by omega
  cases base with
  |none=>
   have h0:=hnil rfl
   subst h0
   go_enter Tryz.func128,Tryz.ntmps128
   go_wp2_with (at_builtin;refine Lib.wpList_append_run _ rfl _ _ _ _ rfl _ _ rfl rfl _ _ (hrun _) ?_)
   all_goals (go_ret;exact⟨rfl,rfl⟩)
  |some a=>
   obtain⟨ab,ao,asp⟩:=a
   go_enter Tryz.func128,Tryz.ntmps128
   go_wp2_with (at_builtin;refine Lib.wpList_append_run _ rfl _ _ _ _ rfl _ _ rfl rfl _ _ (hrun _) ?_)
   all_goals (go_ret;exact⟨rfl,rfl⟩)
 grow:=by
  intro b n c i vc G va w w1 w2 w3 hi hnc hroom hGn hG63 hn46 hrz hcpA hcpB
  have hz1:¬((1:Int)=0):=by omega
  have hz2:¬((i:Int)=(n:Int)):=by omega
  have hz3:(c:Int)<(n:Int)+1:=by omega
  have hGi:¬(G=i):=by omega
  have hGi1:¬(G=i+1):=by omega
  have hci:¬(c=i):=by omega
  have hw1:IntKind.i64.wrap ((i:Int)+1)=(i:Int)+1:=by rw[IntKind.wrap_i64];omega
  have hw2:IntKind.i64.wrap ((n:Int)+1)=(n:Int)+1:=by rw[IntKind.wrap_i64];omega
  have hw3:IntKind.i64.wrap ((n:Int)+1-(i:Int))=(n:Int)+1-(i:Int):=by rw[IntKind.wrap_i64];omega
  have hb1:(0:Int)≤(i:Int)+1:=by omega
  have hin:i≤n:=by omega
  have htn:((i:Int)+1).toNat=i+1:=by omega
  have hb3:(i:Int)≤(n:Int):=by omega
  have hb4:(i:Int)+1≤(n:Int)+1:=by omega
  have hic:i≤c:=by omega
  go_enter Tryz.func128,Tryz.ntmps128
  go_wp2_with (first
   |(at_builtin;refine Lib.wpList_append_run _ rfl _ _ _ _ rfl _ _ rfl rfl _ _ (hrz _) ?_)
   |(refine wpList_copy_runI _ rfl _ _ 27 27 rfl _ _ rfl rfl (hcpA _ _) ?_))
  go_region_law (refine step_copy_runI rfl _ _ 27 27 rfl (.slice (some ⟨w.heap.size,(i+1)*3,none⟩) (n+1-(i+1)) (G-(i+1))) (.slice (some ⟨b,i*3,none⟩) (n-i) (c-i)) (by simp[Act.eval,Act.put]) (by simp[Act.eval,Act.put]) (hcpB _ _ _) ?_)
  go_wp2
  go_ret
  exact⟨rfl,rfl⟩
 apart:=by
  intro b o vc lb cb va cur v t1 w hne hb hv hpos
  obtain⟨i0,hi0,hz0,hzs,hzb⟩:=info_parts elemN.inf
  obtain⟨tA,kA,k1,k2⟩:=shape_of hv
  rw[run_callFunc_extern Tryz.func148 (by kernel_rfl) (by kernel_rfl) (by kernel_rfl) (e:=Extern.SlicesOverlaps.overlaps #[27,27] #[4]) (by kernel_rfl),
   run_overlaps_far w 27 4 55 Tryz.underlying27 3 (fun w=>by simp[sizeOf,typeInfo,hi0,hzs]) va ⟨b,o,none⟩ 1 vc lb cb hne tA t1 kA cur.size k1 (by simp[World.shape?,hb]) k2 (by simp[World.frozen?,hb]) (by simp[World.frozen?,hb])]
  rfl
 shift:=by
  intro b n c i vc va w w2 w3 hi hroom hc63 hov hcpA hcpB
  have hu:=Tryz.underlying27
  have hz1:¬((1:Int)=0):=by omega
  have hz2:¬((i:Int)=(n:Int)):=by omega
  have hz3:¬((c:Int)<(n:Int)+1):=by omega
  have hw1:IntKind.i64.wrap ((i:Int)+1)=(i:Int)+1:=by rw[IntKind.wrap_i64];omega
  have hw2:IntKind.i64.wrap ((n:Int)+1)=(n:Int)+1:=by rw[IntKind.wrap_i64];omega
  have hb1:(0:Int)≤(i:Int)+1:=by omega
  have hb0:(0:Int)≤(n:Int)+1:=by omega
  have hin:i≤n:=by omega
  have htn:((i:Int)+1).toNat=i+1:=by omega
  have htn2:((n:Int)+1).toNat=n+1:=by omega
  have hb3:(i:Int)≤(n:Int)+1:=by omega
  have hb4:(i:Int)+1≤(n:Int)+1:=by omega
  have hb5:(n:Int)+1≤(c:Int):=by omega
  have hci:¬(c=i):=by omega
  have hci1:¬(c=i+1):=by omega
  have hic:i≤c:=by omega
  go_enter Tryz.func128,Tryz.ntmps128
  go_wp2_with (simp only[hov])
  go_region_law (refine step_copy_runI rfl _ _ 27 27 rfl (.slice (some ⟨b,(i+1)*3,none⟩) (n+1-(i+1)) (c-(i+1))) (.slice (some ⟨b,i*3,none⟩) (n+1-i) (c-i)) (by simp[Act.eval,Act.put]) (by simp[Act.eval,Act.put]) (hcpA _ _ _) ?_)
  go_wp2_with (refine wpList_copy_runI _ rfl _ _ 27 27 rfl _ _ rfl rfl (hcpB _ _) ?_)
  go_ret
  exact⟨rfl,rfl⟩
set_option maxHeartbeats 4000000 in
set_option maxRecDepth 1000000 in
theorem delFN:DelF Tryz.prog 129 27 3 where
 fn:=⟨_,Tryz.func129,rfl,by decide⟩
 walk:=by
  intro b n c i j A w w2 w3 hij hj hnc hc63 hA hap hcl
  have hu:=Tryz.underlying27
  have hic:i≤c:=by omega
  have hjc:j≤c:=by omega
  have hcl3:¬(c=i+(n-j)):=by omega
  have hle1:i+(n-j)≤n:=by omega
  have hne:¬((i:Int)=(j:Int)):=by omega
  go_enter Tryz.func129,Tryz.ntmps129
  go_wp2_with fail
  go_region_law (refine step_append_runI rfl _ _ 27 27 rfl (.slice (some ⟨b,0,none⟩) i c) (.slice (some A) (n-j) (c-j)) (by simp[Act.eval,Act.put]) (by simp[Act.eval,Act.put]) (hap _) ?_)
  go_wp2_with (refine wpList_clear_runI _ rfl _ 27 rfl _ rfl (hcl _) ?_)
  go_ret
  exact⟨rfl,rfl⟩
abbrev insSpN:=insSpec 3 56
abbrev delSpN:=delSpec 3
theorem ins_okN:CallSound Tryz.prog fun f' args s=>if f'=128 then insSpN args s else none:=ins_gen elemN insFN
theorem del_okN:CallSound Tryz.prog fun f' args s=>if f'=129 then delSpN args s else none:=del_gen elemN delFN
end AI
end Go.Proofs.YtgmgkkbpgndaaaaGreatDoor
