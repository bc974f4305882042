/- slices.Insert and slices.Delete at api.Prop: the walks. slices.Insert and slices.Delete at string: the walks. slices.Grow of a nil slice of changes, as an entry of the table: an own empty row. -/
import Derived.Test.YthnehejdkajjhaaGreatDoorChecked
import Derived.Test.YthnehejdkajjhaaGreatDoorKMac
import Derived.Deep.RegionLaw
set_option linter.unusedVariables false
set_option maxRecDepth 4000
namespace Go.Proofs.YthnehejdkajjhaaGreatDoor
namespace AI
section
set_option linter.unusedSimpArgs false
open Go.RowKit Go.Lib
theorem AhO:Qc Tryz.prog 46 115 6 80 (.agg #[.string ⟨#[]⟩,.int .i64 0,.int .i64 0,.int .i64 0,.string ⟨#[]⟩,.slice none 0 0]) (.agg [.str [],.int .i64 0,.int .i64 0,.int .i64 0,.str [],.sl false []]) where
 pos:=by omega
 b0:=by omega
 hu:=Tryz.underlying46
 inf:=by kernel_rfl
 zt:=by kernel_rfl
 zs:=rfl
 z1:=by decide
set_option maxHeartbeats 4000000 in
set_option maxRecDepth 1000000 in
theorem ArG:Acm Tryz.prog 204 46 3 6 253 where
 fn:=⟨_,Tryz.func204,rfl,by decide⟩
 iu:=Tryz.underlying3
 fin:=by
  intro base n c vc va w w1 x hnil hnc hrun
  have hu:=Tryz.underlying46
  have hz1:¬((1:Int)=0):=by omega
  cases base with
  |none=>
   have h0:=hnil rfl
   subst h0
   go_enter Tryz.func204,Tryz.ntmps204
   go_wp2_with (at_builtin;refine Lib.wpList_append_run _ rfl _ _ _ _ rfl _ _ rfl rfl _ _ (hrun _) ?_)
   all_goals (go_ret;exact⟨rfl,rfl⟩)
  |some a=>
   obtain⟨ab,ao,asp⟩:=a
   go_enter Tryz.func204,Tryz.ntmps204
   go_wp2_with (at_builtin;refine Lib.wpList_append_run _ rfl _ _ _ _ rfl _ _ rfl rfl _ _ (hrun _) ?_)
   all_goals (go_ret;exact⟨rfl,rfl⟩)
 grow:=by
  intro b n c i vc G va w w1 w2 w3 hi hnc hroom hGn hG63 Agx hrz hcpA hcpB
  have hz1:¬((1:Int)=0):=by omega
  have hz2:¬((i:Int)=(n:Int)):=by omega
  have hz3:(c:Int)<(n:Int)+1:=by omega
  have hGi:¬(G=i):=by omega
  have Ank:¬(G=i+1):=by omega
  have hci:¬(c=i):=by omega
  have hw1:IntKind.i64.wrap ((i:Int)+1)=(i:Int)+1:=by rw[IntKind.wrap_i64];omega
  have hw2:IntKind.i64.wrap ((n:Int)+1)=(n:Int)+1:=by rw[IntKind.wrap_i64];omega
  have hw3:IntKind.i64.wrap ((n:Int)+1-(i:Int))=(n:Int)+1-(i:Int):=by rw[IntKind.wrap_i64];omega
  have hb1:(0:Int)≤(i:Int)+1:=by omega
  have hin:i≤n:=by omega
  have htn:((i:Int)+1).toNat=i+1:=by omega
  have hb3:(i:Int)≤(n:Int):=by omega
  have hb4:(i:Int)+1≤(n:Int)+1:=by omega
  have hic:i≤c:=by omega
  go_enter Tryz.func204,Tryz.ntmps204
  go_wp2_with (first
   |(at_builtin;refine Lib.wpList_append_run _ rfl _ _ _ _ rfl _ _ rfl rfl _ _ (hrz _) ?_)
   |(refine wpList_copy_runI _ rfl _ _ 46 46 rfl _ _ rfl rfl (hcpA _ _) ?_))
  go_region_law (refine step_copy_runI rfl _ _ 46 46 rfl (.slice (some ⟨w.heap.size,(i+1)*6,none⟩) (n+1-(i+1)) (G-(i+1))) (.slice (some ⟨b,i*6,none⟩) (n-i) (c-i)) (by simp[Act.eval,Act.put]) (by simp[Act.eval,Act.put]) (hcpB _ _ _) ?_)
  go_wp2
  go_ret
  exact⟨rfl,rfl⟩
 apart:=by
  intro b o vc lb cb va cur v t1 w hne hb hv hpos
  obtain⟨i0,hi0,hz0,hzs,hzb⟩:=info_parts AhO.inf
  obtain⟨tA,kA,k1,k2⟩:=QZ hv
  rw[run_callFunc_extern Tryz.func253 (by kernel_rfl) (by kernel_rfl) (by kernel_rfl) (e:=Extern.SlicesOverlaps.overlaps #[46,46] #[4]) (by kernel_rfl),
   GI w 46 4 115 Tryz.underlying46 6 (fun w=>by simp[sizeOf,typeInfo,hi0,hzs]) va ⟨b,o,none⟩ 1 vc lb cb hne tA t1 kA cur.size k1 (by simp[World.shape?,hb]) k2 (by simp[World.frozen?,hb]) (by simp[World.frozen?,hb])]
  rfl
 shift:=by
  intro b n c i vc va w w2 w3 hi hroom hc63 hov hcpA hcpB
  have hu:=Tryz.underlying46
  have hz1:¬((1:Int)=0):=by omega
  have hz2:¬((i:Int)=(n:Int)):=by omega
  have hz3:¬((c:Int)<(n:Int)+1):=by omega
  have hw1:IntKind.i64.wrap ((i:Int)+1)=(i:Int)+1:=by rw[IntKind.wrap_i64];omega
  have hw2:IntKind.i64.wrap ((n:Int)+1)=(n:Int)+1:=by rw[IntKind.wrap_i64];omega
  have hb1:(0:Int)≤(i:Int)+1:=by omega
  have hb0:(0:Int)≤(n:Int)+1:=by omega
  have hin:i≤n:=by omega
  have htn:((i:Int)+1).toNat=i+1:=by omega
  have Anl:((n:Int)+1).toNat=n+1:=by omega
  have hb3:(i:Int)≤(n:Int)+1:=by omega
  have hb4:(i:Int)+1≤(n:Int)+1:=by omega
  have hb5:(n:Int)+1≤(c:Int):=by omega
  have hci:¬(c=i):=by omega
  have Anm:¬(c=i+1):=by omega
  have hic:i≤c:=by omega
  go_enter Tryz.func204,Tryz.ntmps204
  go_wp2_with (simp only[hov])
  go_region_law (refine step_copy_runI rfl _ _ 46 46 rfl (.slice (some ⟨b,(i+1)*6,none⟩) (n+1-(i+1)) (c-(i+1))) (.slice (some ⟨b,i*6,none⟩) (n+1-i) (c-i)) (by simp[Act.eval,Act.put]) (by simp[Act.eval,Act.put]) (hcpA _ _ _) ?_)
  go_wp2_with (refine wpList_copy_runI _ rfl _ _ 46 46 rfl _ _ rfl rfl (hcpB _ _) ?_)
  go_ret
  exact⟨rfl,rfl⟩
set_option maxHeartbeats 4000000 in
set_option maxRecDepth 1000000 in
theorem ArH:Ae4 Tryz.prog 203 46 6 where
 fn:=⟨_,Tryz.func203,rfl,by decide⟩
 walk:=by
  intro b n c i j A w w2 w3 hij hj hnc hc63 hA hap hcl
  have hu:=Tryz.underlying46
  have hic:i≤c:=by omega
  have hjc:j≤c:=by omega
  have Ann:¬(c=i+(n-j)):=by omega
  have hle1:i+(n-j)≤n:=by omega
  have hne:¬((i:Int)=(j:Int)):=by omega
  go_enter Tryz.func203,Tryz.ntmps203
  go_wp2_with fail
  go_region_law (refine GK rfl _ _ 46 46 rfl (.slice (some ⟨b,0,none⟩) i c) (.slice (some A) (n-j) (c-j)) (by simp[Act.eval,Act.put]) (by simp[Act.eval,Act.put]) (hap _) ?_)
  go_wp2_with (refine F9 _ rfl _ 46 rfl _ rfl (hcl _) ?_)
  go_ret
  exact⟨rfl,rfl⟩
abbrev AhP:=GL 6 80
abbrev AhQ:=delSpec 6
theorem Ak5:Bz Tryz.prog fun f' args s=>if f'=204 then AhP args s else none:=U6 AhO ArG
theorem Ak6:Bz Tryz.prog fun f' args s=>if f'=203 then AhQ args s else none:=U7 AhO ArH
end
section
set_option linter.unusedSimpArgs false
open Go.RowKit Go.Lib
theorem Ajt:Qc Tryz.prog 45 9 1 16 (.string ⟨#[]⟩) (.str []) where
 pos:=by omega
 b0:=by omega
 hu:=Tryz.underlying45
 inf:=by kernel_rfl
 zt:=by kernel_rfl
 zs:=rfl
 z1:=by decide
set_option maxHeartbeats 4000000 in
set_option maxRecDepth 1000000 in
theorem Atb:Acm Tryz.prog 145 45 3 1 198 where
 fn:=⟨_,Tryz.func145,rfl,by decide⟩
 iu:=Tryz.underlying3
 fin:=by
  intro base n c vc va w w1 x hnil hnc hrun
  have hu:=Tryz.underlying45
  have hz1:¬((1:Int)=0):=by omega
  cases base with
  |none=>
   have h0:=hnil rfl
   subst h0
   go_enter Tryz.func145,Tryz.ntmps145
   go_wp2_with (at_builtin;refine Lib.wpList_append_run _ rfl _ _ _ _ rfl _ _ rfl rfl _ _ (hrun _) ?_)
   all_goals (go_ret;exact⟨rfl,rfl⟩)
  |some a=>
   obtain⟨ab,ao,asp⟩:=a
   go_enter Tryz.func145,Tryz.ntmps145
   go_wp2_with (at_builtin;refine Lib.wpList_append_run _ rfl _ _ _ _ rfl _ _ rfl rfl _ _ (hrun _) ?_)
   all_goals (go_ret;exact⟨rfl,rfl⟩)
 grow:=by
  intro b n c i vc G va w w1 w2 w3 hi hnc hroom hGn hG63 Agx hrz hcpA hcpB
  simp only[Nat.mul_one]at hcpA hcpB
  have hz1:¬((1:Int)=0):=by omega
  have hz2:¬((i:Int)=(n:Int)):=by omega
  have hz3:(c:Int)<(n:Int)+1:=by omega
  have hGi:¬(G=i):=by omega
  have Ank:¬(G=i+1):=by omega
  have hci:¬(c=i):=by omega
  have hw1:IntKind.i64.wrap ((i:Int)+1)=(i:Int)+1:=by rw[IntKind.wrap_i64];omega
  have hw2:IntKind.i64.wrap ((n:Int)+1)=(n:Int)+1:=by rw[IntKind.wrap_i64];omega
  have hw3:IntKind.i64.wrap ((n:Int)+1-(i:Int))=(n:Int)+1-(i:Int):=by rw[IntKind.wrap_i64];omega
  have hb1:(0:Int)≤(i:Int)+1:=by omega
  have hin:i≤n:=by omega
  have htn:((i:Int)+1).toNat=i+1:=by omega
  have hb3:(i:Int)≤(n:Int):=by omega
  have hb4:(i:Int)+1≤(n:Int)+1:=by omega
  have hic:i≤c:=by omega
  go_enter Tryz.func145,Tryz.ntmps145
  go_wp2_with (first
   |(at_builtin;refine Lib.wpList_append_run _ rfl _ _ _ _ rfl _ _ rfl rfl _ _ (hrz _) ?_)
   |(refine wpList_copy_runI _ rfl _ _ 45 45 rfl _ _ rfl rfl (hcpA _ _) ?_))
  go_region_law (refine step_copy_runI rfl _ _ 45 45 rfl (.slice (some ⟨w.heap.size,(i+1),none⟩) (n+1-(i+1)) (G-(i+1))) (.slice (some ⟨b,i,none⟩) (n-i) (c-i)) (by simp[Act.eval,Act.put]) (by simp[Act.eval,Act.put]) (hcpB _ _ _) ?_)
  go_wp2
  go_ret
  exact⟨rfl,rfl⟩
 apart:=by
  intro b o vc lb cb va cur v t1 w hne hb hv hpos
  obtain⟨i0,hi0,hz0,hzs,hzb⟩:=info_parts Ajt.inf
  obtain⟨tA,kA,k1,k2⟩:=QZ hv
  rw[run_callFunc_extern Tryz.func198 (by kernel_rfl) (by kernel_rfl) (by kernel_rfl) (e:=Extern.SlicesOverlaps.overlaps #[45,45] #[4]) (by kernel_rfl),
   GI w 45 4 9 Tryz.underlying45 1 (fun w=>by simp[sizeOf,typeInfo,hi0,hzs]) va ⟨b,o,none⟩ 1 vc lb cb hne tA t1 kA cur.size k1 (by simp[World.shape?,hb]) k2 (by simp[World.frozen?,hb]) (by simp[World.frozen?,hb])]
  rfl
 shift:=by
  intro b n c i vc va w w2 w3 hi hroom hc63 hov hcpA hcpB
  simp only[Nat.mul_one]at hov hcpA hcpB
  have hu:=Tryz.underlying45
  have hz1:¬((1:Int)=0):=by omega
  have hz2:¬((i:Int)=(n:Int)):=by omega
  have hz3:¬((c:Int)<(n:Int)+1):=by omega
  have hw1:IntKind.i64.wrap ((i:Int)+1)=(i:Int)+1:=by rw[IntKind.wrap_i64];omega
  have hw2:IntKind.i64.wrap ((n:Int)+1)=(n:Int)+1:=by rw[IntKind.wrap_i64];omega
  have hb1:(0:Int)≤(i:Int)+1:=by omega
  have hb0:(0:Int)≤(n:Int)+1:=by omega
  have hin:i≤n:=by omega
  have htn:((i:Int)+1).toNat=i+1:=by omega
  have Anl:((n:Int)+1).toNat=n+1:=by omega
  have hb3:(i:Int)≤(n:Int)+1:=by omega
  have hb4:(i:Int)+1≤(n:Int)+1:=by omega
  have hb5:(n:Int)+1≤(c:Int):=by omega
  have hci:¬(c=i):=by omega
  have Anm:¬(c=i+1):=by omega
  have hic:i≤c:=by omega
  go_enter Tryz.func145,Tryz.ntmps145
  go_wp2_with (simp only[hov])
  go_region_law (refine step_copy_runI rfl _ _ 45 45 rfl (.slice (some ⟨b,(i+1),none⟩) (n+1-(i+1)) (c-(i+1))) (.slice (some ⟨b,i,none⟩) (n+1-i) (c-i)) (by simp[Act.eval,Act.put]) (by simp[Act.eval,Act.put]) (hcpA _ _ _) ?_)
  go_wp2_with (refine wpList_copy_runI _ rfl _ _ 45 45 rfl _ _ rfl rfl (hcpB _ _) ?_)
  go_ret
  exact⟨rfl,rfl⟩
set_option maxHeartbeats 4000000 in
set_option maxRecDepth 1000000 in
theorem Atc:Ae4 Tryz.prog 146 45 1 where
 fn:=⟨_,Tryz.func146,rfl,by decide⟩
 walk:=by
  intro b n c i j A w w2 w3 hij hj hnc hc63 hA hap hcl
  simp only[Nat.mul_one]at hA hcl
  have hu:=Tryz.underlying45
  have hic:i≤c:=by omega
  have hjc:j≤c:=by omega
  have Ann:¬(c=i+(n-j)):=by omega
  have hle1:i+(n-j)≤n:=by omega
  have hne:¬((i:Int)=(j:Int)):=by omega
  go_enter Tryz.func146,Tryz.ntmps146
  go_wp2_with fail
  go_region_law (refine GK rfl _ _ 45 45 rfl (.slice (some ⟨b,0,none⟩) i c) (.slice (some A) (n-j) (c-j)) (by simp[Act.eval,Act.put]) (by simp[Act.eval,Act.put]) (hap _) ?_)
  go_wp2_with (refine F9 _ rfl _ 45 rfl _ rfl (hcl _) ?_)
  go_ret
  exact⟨rfl,rfl⟩
abbrev Aju:=GL 1 16
abbrev Ajv:=delSpec 1
theorem Al2:Bz Tryz.prog fun f' args s=>if f'=145 then Aju args s else none:=U6 Ajt Atb
theorem Al3:Bz Tryz.prog fun f' args s=>if f'=146 then Ajv args s else none:=U7 Ajt Atc
end
section
set_option linter.unusedSimpArgs false
open Go.RowKit Go.Lib
abbrev zvC:Value:=.agg #[.int .i64 0,.int .i64 0,.int .i64 0,.int .i64 0,.string ⟨#[]⟩,.int .i64 0,.int .i64 0,.int .i64 0,.string ⟨#[]⟩,.slice none 0 0]
theorem Aif:Qc Tryz.prog 26 53 10 112 zvC (.agg [.int .i64 0,.int .i64 0,.int .i64 0,.int .i64 0,.str [],.int .i64 0,.int .i64 0,.int .i64 0,.str [],.sl false []]) where
 pos:=by omega
 b0:=by omega
 hu:=Tryz.underlying26
 inf:=by kernel_rfl
 zt:=by kernel_rfl
 zs:=rfl
 z1:=by decide
theorem Ud {P:Program} (w:World) (t it ty e:TypeId) (i:TypeInfo) (z:Value) (ht:P.underlying t=some (.slice e)) (hit:P.underlying it=some (.int .i64)) (hi:P.info? e=some i) (hz:i.zero=some z) {n:Nat} (h0:0<n) (hs:0<i.size) (h63:(n:Int)≤9223372036854775807) (h48:n*i.bytes≤281474976710656):
 (Builtin.append_ #[t,it] ty #[.slice none 0 0,.int .i64 n]).run P w=.ok (.slice (some ⟨w.heap.size,0,none⟩) n (grownCap w n 0 e)) (w.drew.alloc (.cells (Builtin.zeroCells z.cells n++Builtin.zeroCells z.cells (grownCap w n 0 e-n)) e)):=by
 have hn:n≠0:=by omega
 have h63':¬(9223372036854775807<(n:Int)):=by omega
 have h48':¬(281474976710656<Builtin.nextslicecap n 0*i.bytes):=by rw[nextslicecap_zero h0];omega
 have hw:IntKind.i64.wrap (n:Int)=n:=by rw[IntKind.wrap_i64];omega
 have hneg:¬((n:Int)<0):=by omega
 have h48i:¬(281474976710656<(n:Int)*(i.bytes:Int)):=by
  have h:((n*i.bytes:Nat):Int)≤281474976710656:=by omega
  rw[Int.natCast_mul]at h
  omega
 have hm:¬(n=0∨i.size=0):=by omega
 have hm2:¬(n*i.size=0):=by rw[Nat.mul_eq_zero];exact hm
 have hle:¬((n:Int)≤0):=by omega
 have hmax:max (n:Int) 0=n:=by omega
 simp[Builtin.append_,run_underlying ht,run_underlying hit,sizeOf,typeInfo,zeroValue,hi,hz,asInt,asIntOf,hw,hle,hmax,hm2,hneg,hn,h63',h48',h48i,hm,Question.forced,run_firstCells_none,newRow,grownCap]
def O1 (es bytes:Nat):List AV→Aq→Option (Bf×Aq)
 |[.sl false [],.int .i64 n],s=>if 0≤n∧n.toNat*bytes≤2 ^ 46 then some (.ok (.own s.σ.length s.ctr 0 0),push s (.arr s.ctr es (decide (n≠0)) true []))else none
 |_,_=>none
set_option maxHeartbeats 4000000 in
set_option maxRecDepth 1000000 in
theorem Ar9 (n:Nat) (h0:0<n) (h63:(n:Int)≤9223372036854775807) (w w1:World) (c:Nat) (hc:n≤c) (b:Nat) (hrun:∀ty,(Builtin.append_ #[26,3] ty #[.slice none 0 0,.int .i64 n]).run Tryz.prog w=.ok (.slice (some ⟨b,0,none⟩) n c) w1):
 Calls Tryz.prog 92 #[.slice none 0 0,.int .i64 n] w fun e w'=>e=.returned (.slice (some ⟨b,0,none⟩) 0 c)∧w'=w1:=by
 have hu:=Tryz.underlying26
 have hw:IntKind.i64.wrap (n:Int)=n:=by rw[IntKind.wrap_i64];omega
 have hneg:¬((n:Int)<0):=by omega
 have hpos:(0:Int)<n:=by omega
 have hn0:n≠0:=by omega
 go_enter Tryz.func92,Tryz.ntmps92
 go_wp2_with (at_builtin;refine Lib.wpList_append_run _ rfl _ _ _ _ rfl _ _ rfl rfl _ _ (hrun _) ?_)
 all_goals (go_ret;exact⟨rfl,rfl⟩)
set_option maxHeartbeats 4000000 in
set_option maxRecDepth 1000000 in
theorem AoT (w:World):Calls Tryz.prog 92 #[.slice none 0 0,.int .i64 0] w fun e w'=>e=.returned (.slice none 0 0)∧w'=w:=by
 have hu:=Tryz.underlying26
 go_enter Tryz.func92,Tryz.ntmps92
 go_wp2
 all_goals (go_ret;exact⟨rfl,rfl⟩)
theorem AoU {w:World} {Z:C9} {φ:GH} {ctr:Nat} {a b:AV} {vs:Array Value} (h:ED w Z φ ctr [a,b] vs):∃v0 v1,vs=#[v0,v1]∧Rep w Z φ ctr a v0∧Rep w Z φ ctr b v1:=by
 obtain⟨hl,ha⟩:=h
 obtain⟨v0,h0,r0⟩:=ha 0 _ rfl
 obtain⟨v1,h1,r1⟩:=ha 1 _ rfl
 refine⟨v0,v1,?_,r0,r1⟩
 apply Array.ext_getElem?
 intro i
 match i with
 |0=>exact h0
 |1=>exact h1
 |i+2=>rw[Array.getElem?_eq_none (by rw[← hl];simp),Array.getElem?_eq_none (by simp)]
abbrev Z8:=O1 10 112
theorem Alk:Bz Tryz.prog fun f' args s=>if f'=92 then Z8 args s else none:=by
 intro f0 args s out s' h
 replace h:(if f0=92 then O1 10 112 args s else none)=some (out,s'):=h
 rcases Decidable.em (f0=92)with hf|hf
 case inr=>rw[if_neg hf]at h;cases h
 rw[if_pos hf]at h
 subst hf
 unfold O1 at h
 split at h
 case h_2=>cases h
 rename_i n
 split at h
 case isFalse=>cases h
 rename_i hc
 obtain⟨hn0,hr⟩:=hc
 simp only[Option.some.injEq,Prod.mk.injEq]at h
 obtain⟨rfl,rfl⟩:=h
 refine fun w0 B Z φ w vs hI hargs=>.inl ⟨⟨_,Tryz.func92,rfl,by decide⟩,?_⟩
 obtain⟨v0,v1,rfl,r0,r1⟩:=AoU hargs
 cases r0
 cases r1
 obtain⟨k,rfl⟩:∃k:Nat,n=(k:Int):=⟨n.toNat,by omega⟩
 simp only[Int.toNat_natCast]at hr
 by_cases hk:k=0
 ·subst hk
  refine(AoT w).mono ?_
  rintro e w1 ⟨rfl,rfl⟩
  have hL:Later B w1 Z φ s.ctr w1 Z (CG φ s.ctr .nil) (s.ctr+1):=FZ hI (Below.refl _ _) (fun _ _ h=>h) (fun _ _ h=>.inl h) (fun g hg=>Fe φ _ hg) (by omega)
  refine⟨Z,CG φ s.ctr .nil,?_,hL,.slice none 0 0,rfl,.Dk _ _ (Nat.lt_succ_self _) (Az _ _ _)⟩
  refine hI.push (Below.refl _ _) hL (fun _ _ h=>.inl h) (fun b i h=>hI.live b i h) ⟨by omega,by omega,?_⟩ rfl (fun b e n h=>?_)
  ·rw[Az];exact⟨rfl,rfl⟩
  ·rw[Az]at h;cases h
 ·obtain⟨i0,hi0,hz0,hzs,hzb⟩:=info_parts Aif.inf
  have hk0:0<k:=by omega
  have hrun:=fun ty=>Ud (P:=Tryz.prog) w 26 3 ty 53 i0 _ Aif.hu Tryz.underlying3 hi0 hz0 hk0 (by omega) (by omega) (by rw[hzb];omega)
  have hmax:k≤maxLen:=by unfold maxLen;omega
  have hge:=grownCap_ge w k 0 53
  refine(Ar9 k hk0 (by omega) w _ _ hge _ hrun).mono ?_
  rintro e w1 ⟨rfl,rfl⟩
  have hsz:grownCap w k 0 53*10=(Builtin.zeroCells zvC.cells k++Builtin.zeroCells zvC.cells (grownCap w k 0 53-k)).size:=by
   rw[Array.size_append,size_zeroCells,size_zeroCells,Aif.zs,←Nat.add_mul]
   congr 1
   omega
  generalize Builtin.zeroCells zvC.cells k++Builtin.zeroCells zvC.cells (grownCap w k 0 53-k)=C at hsz
  obtain⟨φ',k1,k2,k3⟩:=KD (s:=s) (es:=10) (cl:=true) (elems:=[]) (cap:=grownCap w k 0 53) (w':=w.drew.alloc (.cells C 53)) (b:=w.heap.size) (c:=C) (t:=53) hI ((Below.refl w.heap.size w).drew.alloc (Nat.le_refl _) _) (Nat.le_refl _) (heap_alloc_new w.drew _) (by omega) (fun i x hx=>by simp at hx) hsz (by simp) (grownCap_le_maxLen w _ _ _ hmax)
  have e1:decide ((k:Int)≠0)=true:=decide_eq_true (by omega)
  rw[e1]
  exact⟨Z,φ',k1,k3,_,rfl,k2⟩
end
end AI
end Go.Proofs.YthnehejdkajjhaaGreatDoor
