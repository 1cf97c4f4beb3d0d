/- What each of these functions comes to on the abstract machine, one equation a function and one a loop.
Conditions: none. -/
import Derived.Test.YtkdenmdijdmnjaaTb
set_option linter.unusedVariables false
set_option maxRecDepth 100000
namespace Go.Proofs.Ytkdenmdijdmnjaa.Am
open Go Go.RowKit
noncomputable abbrev qf179 (base : Nat) (v0_0 : Int) (v0_1 : Int) (v0_2 : Int) (v0_3 : Int) (v0_4 : Int) (v0_5 : ByteArray) (h : AH) : Option (Value × AH):=
nw1 h 143 [(vI v0_0),(vI v0_1),(vI v0_2),(vI v0_3),(vI v0_4),(vT v0_5)] fun h1=>
((cell h1 (List.length h) 0).bind (getI .i64)).bind fun n2=>
(run (Et base) 211 [(vI n2)] h1).bind fun r3=>
((some r3.1).bind getStr).bind fun s4=>
nw1 r3.2 9 [(vT ⟨#[]⟩)] fun h5=>
(wr base h5 (List.length r3.2) 0 [(vT s4)]).bind fun h6=>
((cell h6 (List.length r3.2) 0).bind getStr).bind fun s7=>
(if (!(s7.toList == (⟨#[]⟩ : ByteArray).toList)) = true then
((run (Et base) 212 [(.int .u8 (65 : Int)),(vP (List.length r3.2))] h6).bind fun r9=>
((some r9.1).bind getB).bind fun b10=>
some ((.bool b10),r9.2)).bind fun r8=>
((some r8.1).bind getB).bind fun b11=>
(if b11 = true then
((run (Et base) 212 [(.int .u8 (66 : Int)),(vP (List.length r3.2))] r8.2).bind fun r13=>
((some r13.1).bind getB).bind fun b14=>
some ((.bool b14),r13.2)).bind fun r12=>
((some r12.1).bind getB).bind fun b15=>
(if b15 = true then
((run (Et base) 212 [(.int .u8 (67 : Int)),(vP (List.length r3.2))] r12.2).bind fun r17=>
((some r17.1).bind getB).bind fun b18=>
some ((.bool b18),r17.2)).bind fun r16=>
((some r16.1).bind getB).bind fun b19=>
(if b19 = true then
((run (Et base) 212 [(.int .u8 (78 : Int)),(vP (List.length r3.2))] r16.2).bind fun r21=>
((some r21.1).bind getB).bind fun b22=>
some ((.bool b22),r21.2)).bind fun r20=>
((some r20.1).bind getB).bind fun b23=>
(if b23 = true then
((run (Et base) 212 [(.int .u8 (83 : Int)),(vP (List.length r3.2))] r20.2).bind fun r25=>
((some r25.1).bind getB).bind fun b26=>
some ((.bool b26),r25.2)).bind fun r24=>
((some r24.1).bind getB).bind fun b27=>
(if b27 = true then
some ((.bool true),r24.2)
else
((cell r24.2 (List.length h) 5).bind getStr).bind fun s28=>
some ((.bool (s28.toList == (⟨#[]⟩ : ByteArray).toList)),r24.2))
else
((cell r20.2 (List.length h) 4).bind (getI .i64)).bind fun n29=>
(if (n29 == (0 : Int)) = true then
((run (Et base) 212 [(.int .u8 (83 : Int)),(vP (List.length r3.2))] r20.2).bind fun r31=>
((some r31.1).bind getB).bind fun b32=>
some ((.bool b32),r31.2)).bind fun r30=>
((some r30.1).bind getB).bind fun b33=>
(if b33 = true then
some ((.bool true),r30.2)
else
((cell r30.2 (List.length h) 5).bind getStr).bind fun s34=>
some ((.bool (s34.toList == (⟨#[]⟩ : ByteArray).toList)),r30.2))
else
some ((.bool false),r20.2)))
else
((cell r16.2 (List.length h) 3).bind (getI .i64)).bind fun n35=>
(if (n35 == (0 : Int)) = true then
((run (Et base) 212 [(.int .u8 (78 : Int)),(vP (List.length r3.2))] r16.2).bind fun r37=>
((some r37.1).bind getB).bind fun b38=>
some ((.bool b38),r37.2)).bind fun r36=>
((some r36.1).bind getB).bind fun b39=>
(if b39 = true then
((run (Et base) 212 [(.int .u8 (83 : Int)),(vP (List.length r3.2))] r36.2).bind fun r41=>
((some r41.1).bind getB).bind fun b42=>
some ((.bool b42),r41.2)).bind fun r40=>
((some r40.1).bind getB).bind fun b43=>
(if b43 = true then
some ((.bool true),r40.2)
else
((cell r40.2 (List.length h) 5).bind getStr).bind fun s44=>
some ((.bool (s44.toList == (⟨#[]⟩ : ByteArray).toList)),r40.2))
else
((cell r36.2 (List.length h) 4).bind (getI .i64)).bind fun n45=>
(if (n45 == (0 : Int)) = true then
((run (Et base) 212 [(.int .u8 (83 : Int)),(vP (List.length r3.2))] r36.2).bind fun r47=>
((some r47.1).bind getB).bind fun b48=>
some ((.bool b48),r47.2)).bind fun r46=>
((some r46.1).bind getB).bind fun b49=>
(if b49 = true then
some ((.bool true),r46.2)
else
((cell r46.2 (List.length h) 5).bind getStr).bind fun s50=>
some ((.bool (s50.toList == (⟨#[]⟩ : ByteArray).toList)),r46.2))
else
some ((.bool false),r36.2)))
else
some ((.bool false),r16.2)))
else
((cell r12.2 (List.length h) 2).bind (getI .i64)).bind fun n51=>
(if (n51 == (0 : Int)) = true then
((run (Et base) 212 [(.int .u8 (67 : Int)),(vP (List.length r3.2))] r12.2).bind fun r53=>
((some r53.1).bind getB).bind fun b54=>
some ((.bool b54),r53.2)).bind fun r52=>
((some r52.1).bind getB).bind fun b55=>
(if b55 = true then
((run (Et base) 212 [(.int .u8 (78 : Int)),(vP (List.length r3.2))] r52.2).bind fun r57=>
((some r57.1).bind getB).bind fun b58=>
some ((.bool b58),r57.2)).bind fun r56=>
((some r56.1).bind getB).bind fun b59=>
(if b59 = true then
((run (Et base) 212 [(.int .u8 (83 : Int)),(vP (List.length r3.2))] r56.2).bind fun r61=>
((some r61.1).bind getB).bind fun b62=>
some ((.bool b62),r61.2)).bind fun r60=>
((some r60.1).bind getB).bind fun b63=>
(if b63 = true then
some ((.bool true),r60.2)
else
((cell r60.2 (List.length h) 5).bind getStr).bind fun s64=>
some ((.bool (s64.toList == (⟨#[]⟩ : ByteArray).toList)),r60.2))
else
((cell r56.2 (List.length h) 4).bind (getI .i64)).bind fun n65=>
(if (n65 == (0 : Int)) = true then
((run (Et base) 212 [(.int .u8 (83 : Int)),(vP (List.length r3.2))] r56.2).bind fun r67=>
((some r67.1).bind getB).bind fun b68=>
some ((.bool b68),r67.2)).bind fun r66=>
((some r66.1).bind getB).bind fun b69=>
(if b69 = true then
some ((.bool true),r66.2)
else
((cell r66.2 (List.length h) 5).bind getStr).bind fun s70=>
some ((.bool (s70.toList == (⟨#[]⟩ : ByteArray).toList)),r66.2))
else
some ((.bool false),r56.2)))
else
((cell r52.2 (List.length h) 3).bind (getI .i64)).bind fun n71=>
(if (n71 == (0 : Int)) = true then
((run (Et base) 212 [(.int .u8 (78 : Int)),(vP (List.length r3.2))] r52.2).bind fun r73=>
((some r73.1).bind getB).bind fun b74=>
some ((.bool b74),r73.2)).bind fun r72=>
((some r72.1).bind getB).bind fun b75=>
(if b75 = true then
((run (Et base) 212 [(.int .u8 (83 : Int)),(vP (List.length r3.2))] r72.2).bind fun r77=>
((some r77.1).bind getB).bind fun b78=>
some ((.bool b78),r77.2)).bind fun r76=>
((some r76.1).bind getB).bind fun b79=>
(if b79 = true then
some ((.bool true),r76.2)
else
((cell r76.2 (List.length h) 5).bind getStr).bind fun s80=>
some ((.bool (s80.toList == (⟨#[]⟩ : ByteArray).toList)),r76.2))
else
((cell r72.2 (List.length h) 4).bind (getI .i64)).bind fun n81=>
(if (n81 == (0 : Int)) = true then
((run (Et base) 212 [(.int .u8 (83 : Int)),(vP (List.length r3.2))] r72.2).bind fun r83=>
((some r83.1).bind getB).bind fun b84=>
some ((.bool b84),r83.2)).bind fun r82=>
((some r82.1).bind getB).bind fun b85=>
(if b85 = true then
some ((.bool true),r82.2)
else
((cell r82.2 (List.length h) 5).bind getStr).bind fun s86=>
some ((.bool (s86.toList == (⟨#[]⟩ : ByteArray).toList)),r82.2))
else
some ((.bool false),r72.2)))
else
some ((.bool false),r52.2)))
else
some ((.bool false),r12.2)))
else
((cell r8.2 (List.length h) 1).bind (getI .i64)).bind fun n87=>
(if (n87 == (0 : Int)) = true then
((run (Et base) 212 [(.int .u8 (66 : Int)),(vP (List.length r3.2))] r8.2).bind fun r89=>
((some r89.1).bind getB).bind fun b90=>
some ((.bool b90),r89.2)).bind fun r88=>
((some r88.1).bind getB).bind fun b91=>
(if b91 = true then
((run (Et base) 212 [(.int .u8 (67 : Int)),(vP (List.length r3.2))] r88.2).bind fun r93=>
((some r93.1).bind getB).bind fun b94=>
some ((.bool b94),r93.2)).bind fun r92=>
((some r92.1).bind getB).bind fun b95=>
(if b95 = true then
((run (Et base) 212 [(.int .u8 (78 : Int)),(vP (List.length r3.2))] r92.2).bind fun r97=>
((some r97.1).bind getB).bind fun b98=>
some ((.bool b98),r97.2)).bind fun r96=>
((some r96.1).bind getB).bind fun b99=>
(if b99 = true then
((run (Et base) 212 [(.int .u8 (83 : Int)),(vP (List.length r3.2))] r96.2).bind fun r101=>
((some r101.1).bind getB).bind fun b102=>
some ((.bool b102),r101.2)).bind fun r100=>
((some r100.1).bind getB).bind fun b103=>
(if b103 = true then
some ((.bool true),r100.2)
else
((cell r100.2 (List.length h) 5).bind getStr).bind fun s104=>
some ((.bool (s104.toList == (⟨#[]⟩ : ByteArray).toList)),r100.2))
else
((cell r96.2 (List.length h) 4).bind (getI .i64)).bind fun n105=>
(if (n105 == (0 : Int)) = true then
((run (Et base) 212 [(.int .u8 (83 : Int)),(vP (List.length r3.2))] r96.2).bind fun r107=>
((some r107.1).bind getB).bind fun b108=>
some ((.bool b108),r107.2)).bind fun r106=>
((some r106.1).bind getB).bind fun b109=>
(if b109 = true then
some ((.bool true),r106.2)
else
((cell r106.2 (List.length h) 5).bind getStr).bind fun s110=>
some ((.bool (s110.toList == (⟨#[]⟩ : ByteArray).toList)),r106.2))
else
some ((.bool false),r96.2)))
else
((cell r92.2 (List.length h) 3).bind (getI .i64)).bind fun n111=>
(if (n111 == (0 : Int)) = true then
((run (Et base) 212 [(.int .u8 (78 : Int)),(vP (List.length r3.2))] r92.2).bind fun r113=>
((some r113.1).bind getB).bind fun b114=>
some ((.bool b114),r113.2)).bind fun r112=>
((some r112.1).bind getB).bind fun b115=>
(if b115 = true then
((run (Et base) 212 [(.int .u8 (83 : Int)),(vP (List.length r3.2))] r112.2).bind fun r117=>
((some r117.1).bind getB).bind fun b118=>
some ((.bool b118),r117.2)).bind fun r116=>
((some r116.1).bind getB).bind fun b119=>
(if b119 = true then
some ((.bool true),r116.2)
else
((cell r116.2 (List.length h) 5).bind getStr).bind fun s120=>
some ((.bool (s120.toList == (⟨#[]⟩ : ByteArray).toList)),r116.2))
else
((cell r112.2 (List.length h) 4).bind (getI .i64)).bind fun n121=>
(if (n121 == (0 : Int)) = true then
((run (Et base) 212 [(.int .u8 (83 : Int)),(vP (List.length r3.2))] r112.2).bind fun r123=>
((some r123.1).bind getB).bind fun b124=>
some ((.bool b124),r123.2)).bind fun r122=>
((some r122.1).bind getB).bind fun b125=>
(if b125 = true then
some ((.bool true),r122.2)
else
((cell r122.2 (List.length h) 5).bind getStr).bind fun s126=>
some ((.bool (s126.toList == (⟨#[]⟩ : ByteArray).toList)),r122.2))
else
some ((.bool false),r112.2)))
else
some ((.bool false),r92.2)))
else
((cell r88.2 (List.length h) 2).bind (getI .i64)).bind fun n127=>
(if (n127 == (0 : Int)) = true then
((run (Et base) 212 [(.int .u8 (67 : Int)),(vP (List.length r3.2))] r88.2).bind fun r129=>
((some r129.1).bind getB).bind fun b130=>
some ((.bool b130),r129.2)).bind fun r128=>
((some r128.1).bind getB).bind fun b131=>
(if b131 = true then
((run (Et base) 212 [(.int .u8 (78 : Int)),(vP (List.length r3.2))] r128.2).bind fun r133=>
((some r133.1).bind getB).bind fun b134=>
some ((.bool b134),r133.2)).bind fun r132=>
((some r132.1).bind getB).bind fun b135=>
(if b135 = true then
((run (Et base) 212 [(.int .u8 (83 : Int)),(vP (List.length r3.2))] r132.2).bind fun r137=>
((some r137.1).bind getB).bind fun b138=>
some ((.bool b138),r137.2)).bind fun r136=>
((some r136.1).bind getB).bind fun b139=>
(if b139 = true then
some ((.bool true),r136.2)
else
((cell r136.2 (List.length h) 5).bind getStr).bind fun s140=>
some ((.bool (s140.toList == (⟨#[]⟩ : ByteArray).toList)),r136.2))
else
((cell r132.2 (List.length h) 4).bind (getI .i64)).bind fun n141=>
(if (n141 == (0 : Int)) = true then
((run (Et base) 212 [(.int .u8 (83 : Int)),(vP (List.length r3.2))] r132.2).bind fun r143=>
((some r143.1).bind getB).bind fun b144=>
some ((.bool b144),r143.2)).bind fun r142=>
((some r142.1).bind getB).bind fun b145=>
(if b145 = true then
some ((.bool true),r142.2)
else
((cell r142.2 (List.length h) 5).bind getStr).bind fun s146=>
some ((.bool (s146.toList == (⟨#[]⟩ : ByteArray).toList)),r142.2))
else
some ((.bool false),r132.2)))
else
((cell r128.2 (List.length h) 3).bind (getI .i64)).bind fun n147=>
(if (n147 == (0 : Int)) = true then
((run (Et base) 212 [(.int .u8 (78 : Int)),(vP (List.length r3.2))] r128.2).bind fun r149=>
((some r149.1).bind getB).bind fun b150=>
some ((.bool b150),r149.2)).bind fun r148=>
((some r148.1).bind getB).bind fun b151=>
(if b151 = true then
((run (Et base) 212 [(.int .u8 (83 : Int)),(vP (List.length r3.2))] r148.2).bind fun r153=>
((some r153.1).bind getB).bind fun b154=>
some ((.bool b154),r153.2)).bind fun r152=>
((some r152.1).bind getB).bind fun b155=>
(if b155 = true then
some ((.bool true),r152.2)
else
((cell r152.2 (List.length h) 5).bind getStr).bind fun s156=>
some ((.bool (s156.toList == (⟨#[]⟩ : ByteArray).toList)),r152.2))
else
((cell r148.2 (List.length h) 4).bind (getI .i64)).bind fun n157=>
(if (n157 == (0 : Int)) = true then
((run (Et base) 212 [(.int .u8 (83 : Int)),(vP (List.length r3.2))] r148.2).bind fun r159=>
((some r159.1).bind getB).bind fun b160=>
some ((.bool b160),r159.2)).bind fun r158=>
((some r158.1).bind getB).bind fun b161=>
(if b161 = true then
some ((.bool true),r158.2)
else
((cell r158.2 (List.length h) 5).bind getStr).bind fun s162=>
some ((.bool (s162.toList == (⟨#[]⟩ : ByteArray).toList)),r158.2))
else
some ((.bool false),r148.2)))
else
some ((.bool false),r128.2)))
else
some ((.bool false),r88.2)))
else
some ((.bool false),r8.2)))
else
some ((.bool false),h6))
theorem r179 {base : Nat} {v0_0 : Int} {v0_1 : Int} {v0_2 : Int} {v0_3 : Int} {v0_4 : Int} {v0_5 : ByteArray} {h : AH} {r : Value × AH} (hx : qf179 base v0_0 v0_1 v0_2 v0_3 v0_4 v0_5 h = some r) : run (Et base) 179 [(.agg #[(vI v0_0),(vI v0_1),(vI v0_2),(vI v0_3),(vI v0_4),(vT v0_5)])] h = some r:=run_i (an:=a179) Try.func179 (by kernel_rfl) (.trans (by kernel_rfl) hx)
theorem r180 {base : Nat} {v0 : Int} {h : AH} {r : Value × AH} (hx : ((run (Et base) 83 [(.int .i64 v0),(.int .i64 (0 : Int)),(.int .i64 (7 : Int))] h).bind fun r1=>
((some r1.1).bind getB).bind fun b2=>
some ((.bool b2),r1.2)) = some r) : run (Et base) 180 [(vI v0)] h = some r:=run_i (an:=a180) Try.func180 (by kernel_rfl) (.trans (by kernel_rfl) hx)
theorem r181 {base : Nat}  {h : AH} {r : Value × AH} (hx : ((some (h++[some ⟨[(.string (⟨#[65,78]⟩ : ByteArray)),(.string (⟨#[65,83]⟩ : ByteArray)),(.string (⟨#[65,66]⟩ : ByteArray)),(.string (⟨#[65,66,78]⟩ : ByteArray)),(.string (⟨#[65,66,67]⟩ : ByteArray)),(.string (⟨#[65,66,78]⟩ : ByteArray)),(.string (⟨#[65,66]⟩ : ByteArray)),(.string (⟨#[65,66]⟩ : ByteArray)),(.string (⟨#[65,66,67]⟩ : ByteArray)),(.string (⟨#[65,66,78]⟩ : ByteArray)),(.string (⟨#[65,66,78]⟩ : ByteArray)),(.string (⟨#[78]⟩ : ByteArray)),(.string (⟨#[65,66]⟩ : ByteArray)),(.string (⟨#[65]⟩ : ByteArray)),(.string (⟨#[65]⟩ : ByteArray)),(.string (⟨#[65,66,78]⟩ : ByteArray)),(.string (⟨#[65]⟩ : ByteArray)),(.string (⟨#[65]⟩ : ByteArray)),(.string (⟨#[65]⟩ : ByteArray)),(.string (⟨#[65]⟩ : ByteArray))],9⟩])).bind fun h1=>
some ((.slice (some ⟨(List.length h),0,none⟩) 20 20),h1)) = some r) : run (Et base) 181 [] h = some r:=run_i (an:=a181) Try.func181 (by kernel_rfl) (.trans (by kernel_rfl) hx)
theorem r182 {base : Nat} {v0 : ByteArray} {v1 : Int} {v2 : Int} {h : AH} {r : Value × AH} (hx : ((run (Et base) 204 [(.string v0),(.int .u8 v1)] h).bind fun r1=>
((some r1.1).bind getB).bind fun b2=>
(if (!b2) = true then
some ((.bool (v2 == (0 : Int))),r1.2)
else
(run (Et base) 90 [(.int .i64 v2),(.int .i64 (0 : Int)),(.int .i64 (7 : Int))] r1.2).bind fun r3=>
((some r3.1).bind getB).bind fun b4=>
some ((.bool b4),r3.2))) = some r) : run (Et base) 182 [(vT v0),(.int .u8 v1),(vI v2)] h = some r:=run_i (an:=a182) Try.func182 (by kernel_rfl) (.trans (by kernel_rfl) hx)
noncomputable def B183_0 (base : Nat) : Body:=fun l h=>lay s183_0 l fun s=>exCode (Et base) (run (Et base)) loopL a183_0 (subC [1,0,1,0,0] (bodyC Try.f183)) s h (keepK s183_0 e183_0)
theorem B183_0_eq (base : Nat) (v0 : ByteArray) (v3 : Int) (h : AH) : B183_0 base [some (vT v0),some (vI v3)] h =
((if (decide (v3 < (v0.size : Int))) = true then
(if 0≤v3∧v3 < (v0.size : Int) then
(run (Et base) 90 [(.int .i64 (IntKind.wrap .i64 ((v0.data.toList.getD (Int.toNat v3) 0).toNat : Int))),(.int .i64 (97 : Int)),(.int .i64 (122 : Int))] h).bind fun r1=>
((some r1.1).bind getB).bind fun b2=>
((if (!b2) = true then
(if (v3 == (0 : Int)) = true then
some (.inl ([some (.string v0),some (.int .i64 v3),some (.bool true)],r1.2))
else
(if 0≤v3∧v3 < (v0.size : Int) then
(run (Et base) 90 [(.int .i64 (IntKind.wrap .i64 ((v0.data.toList.getD (Int.toNat v3) 0).toNat : Int))),(.int .i64 (48 : Int)),(.int .i64 (57 : Int))] r1.2).bind fun r4=>
((some r4.1).bind getB).bind fun b5=>
some (.inl ([some (.string v0),some (.int .i64 v3),some (.bool (!b5))],r4.2))
else none))
else
some (.inl ([some (.string v0),some (.int .i64 v3),some (.bool false)],r1.2)))).bind fun j3=>joinK j3 fun j3=>
((sget j3.1 0).bind getStr).bind fun s6=>
((sget (j3.1.tail) 0).bind (getI .i64)).bind fun n7=>
((sget (j3.1.tail.tail) 0).bind getB).bind fun b8=>
(if b8 = true then
some (1,[some (.bool false)],j3.2)
else
some (0,[some (.string s6),some (.int .i64 (IntKind.wrap .i64 (n7 + (1 : Int))))],j3.2))
else none)
else
some (2,[some (.string v0)],h)) : Option (Nat × Slots × AH)):=by kernel_rfl
theorem r183 {base : Nat} {v0 : ByteArray} {h : AH} {r : Value × AH} (hx : ((loopL (B183_0 base) [some (.string v0),some (.int .i64 (0 : Int))] h).bind fun q1=>
(if q1.1 = 1 then
((sget q1.2.1 0).bind getB).bind fun b2=>
some ((.bool b2),q1.2.2)
else
(if q1.1 = 2 then
((sget q1.2.1 0).bind getStr).bind fun s3=>
(run (Et base) 90 [(.int .i64 (s3.size : Int)),(.int .i64 (1 : Int)),(.int .i64 (12 : Int))] q1.2.2).bind fun r4=>
((some r4.1).bind getB).bind fun b5=>
some ((.bool b5),r4.2)
else
none))) = some r) : run (Et base) 183 [(vT v0)] h = some r:=run_i (an:=a183) Try.func183 (by kernel_rfl) (.trans (by kernel_rfl) hx)
theorem r184 {base : Nat} {v0_0 : Int} {v0_1 : Int} {v0_2 : Int} {v0_3 : Int} {v0_4 : Int} {v0_5 : ByteArray} {v1 : Int} {h : AH} {r : Value × AH} (hx : (nw1 h 143 [(vI v0_0),(vI v0_1),(vI v0_2),(vI v0_3),(vI v0_4),(vT v0_5)] fun h1=>
((cell h1 (List.length h) 0).bind (getI .i64)).bind fun n2=>
(if (n2 == (1 : Int)) = true then
((cell h1 (List.length h) 4).bind (getI .i64)).bind fun n3=>
(run (Et base) 90 [(vI n3),(vI (-1000000 : Int)),(vI (1000000 : Int))] h1).bind fun r4=>
((some r4.1).bind getB).bind fun b5=>
some ((.bool b5),r4.2)
else
(if (n2 == (4 : Int)) = true then
((cell h1 (List.length h) 4).bind (getI .i64)).bind fun n6=>
(run (Et base) 90 [(vI n6),(vI (0 : Int)),(vI (8 : Int))] h1).bind fun r7=>
((some r7.1).bind getB).bind fun b8=>
(if b8 = true then
((cell r7.2 (List.length h) 2).bind (getI .i64)).bind fun n9=>
((cell r7.2 (List.length h) 4).bind (getI .i64)).bind fun n10=>
some ((.bool (decide ((IntKind.wrap .i64 (n9 + n10))≤(8 : Int)))),r7.2)
else
some ((.bool false),r7.2))
else
(if (n2 == (6 : Int)) = true then
((cell h1 (List.length h) 4).bind (getI .i64)).bind fun n11=>
(run (Et base) 90 [(vI n11),(vI (0 : Int)),(vI (7 : Int))] h1).bind fun r12=>
((some r12.1).bind getB).bind fun b13=>
some ((.bool b13),r12.2)
else
((if (n2 == (10 : Int)) = true then
some (.inl ([some (vI v1),some (vP (List.length h)),some (.bool (n2 == (10 : Int)))],h1))
else
(if (n2 == (11 : Int)) = true then
some (.inl ([some (vI v1),some (vP (List.length h)),some (.bool (n2 == (11 : Int)))],h1))
else
(if (n2 == (12 : Int)) = true then
some (.inl ([some (vI v1),some (vP (List.length h)),some (.bool (n2 == (12 : Int)))],h1))
else
some (.inl ([some (vI v1),some (vP (List.length h)),some (.bool (n2 == (16 : Int)))],h1)))))).bind fun j14=>joinK j14 fun j14=>
j_IAB j14.1 fun n15 d16 b17=>
(if b17 = true then
((cell j14.2 d16.block (d16.off + 4)).bind (getI .i64)).bind fun n18=>
(if (decide (n18 ≥ (0 : Int))) = true then
((cell j14.2 d16.block (d16.off + 4)).bind (getI .i64)).bind fun n19=>
some ((.bool (decide (n19 < n15))),j14.2)
else
some ((.bool false),j14.2))
else
((cell j14.2 d16.block (d16.off + 4)).bind (getI .i64)).bind fun n20=>
some ((.bool (n20 == (0 : Int))),j14.2)))))) = some r) : run (Et base) 184 [(.agg #[(vI v0_0),(vI v0_1),(vI v0_2),(vI v0_3),(vI v0_4),(vT v0_5)]),(vI v1)] h = some r:=run_i (an:=a184) Try.func184 (by kernel_rfl) (.trans (by kernel_rfl) hx)
theorem r194 {base : Nat} {v0 : Int} {h : AH} {r : Value × AH} (hx : ((if (decide (v0 ≥ (97 : Int))) = true then
some ((.bool (decide (v0≤(122 : Int)))),h)
else
some ((.bool false),h))) = some r) : run (Et base) 194 [(.int .u8 v0)] h = some r:=run_i (an:=a194) Try.func194 (by kernel_rfl) (.trans (by kernel_rfl) hx)
theorem r195 {base : Nat} {v0 : Int} {h : AH} {r : Value × AH} (hx : ((if (decide (v0 ≥ (48 : Int))) = true then
some ((.bool (decide (v0≤(57 : Int)))),h)
else
some ((.bool false),h))) = some r) : run (Et base) 195 [(.int .u8 v0)] h = some r:=run_i (an:=a195) Try.func195 (by kernel_rfl) (.trans (by kernel_rfl) hx)
theorem r201 {base : Nat} {v0 : Int} {h : AH} {r : Value × AH} (hx : ((some (h++[some ⟨[(.int .i64 0),(.int .i64 0),(.string ⟨#[]⟩),(.slice none 0 0)],42⟩])).bind fun h1=>
(wr base h1 (List.length h) 0 [(.int .i64 (1 : Int)),(.int .i64 v0),(.string (⟨#[]⟩ : ByteArray)),(.slice none 0 0)]).bind fun h2=>
((cell h2 (List.length h) 0).bind (getI .i64)).bind fun n3=>
((cell h2 (List.length h) 1).bind (getI .i64)).bind fun n4=>
((cell h2 (List.length h) 2).bind getStr).bind fun s5=>
((cell h2 (List.length h) 3).bind getS).bind fun l6=>
some ((.agg #[(.int .i64 n3),(.int .i64 n4),(.string s5),(.slice l6.1 l6.2 l6.2)]),h2)) = some r) : run (Et base) 201 [(vI v0)] h = some r:=run_i (an:=a201) Try.func201 (by kernel_rfl) (.trans (by kernel_rfl) hx)
noncomputable def B202_0 (base : Nat) : Body:=fun l h=>lay s202_0 l fun s=>exCode (Et base) (run (Et base)) loopL a202_0 (subC [1,1,1,0,1,0,0] (bodyC Try.f202)) s h (keepK s202_0 e202_0)
theorem B202_0_eq (base : Nat) (v0 : ByteArray) (v1 : Int) (v5 : Option Addr) (v5n : Nat) (v6 : Int) (v7 : Int) (h : AH) : B202_0 base [some (vT v0),some (.int .u8 v1),some (vL v5 v5n),some (vI v6),some (vI v7)] h =
((if (decide (v7≤(v0.size : Int))) = true then
(((if (v7 == (v0.size : Int)) = true then
some (.inl ([some (vT v0),some (.int .u8 v1),some (vL v5 v5n),some (vI v6),some (vI v7),some (.bool true)],h))
else
(if 0≤v7∧v7 < (v0.size : Int) then
some (.inl ([some (vT v0),some (.int .u8 v1),some (vL v5 v5n),some (vI v6),some (vI v7),some (.bool (((v0.data.toList.getD (Int.toNat v7) 0).toNat : Int) == v1))],h))
else none))).bind fun j2=>joinK j2 fun j2=>
j_TULIIB j2.1 fun s3 n4 l5 n6 n7 b8=>
(if b8 = true then
(if 0≤n6∧n6≤n7∧n7≤(s3.size : Int) then
nw1 j2.2 9 [(vT (s3.extract (Int.toNat n6) (Int.toNat n7)))] fun h9=>
(app base h9 9 1 16 l5.1 l5.2 (rawAt h9 (some ⟨(List.length j2.2),0,none⟩) (1 * 1)) 1).bind fun p10=>
((some p10.1).bind getS).bind fun l11=>
some (.inl ([some (vT s3),some (.int .u8 n4),some (vL l11.1 l11.2),some (vI (IntKind.wrap .i64 (n7 + (1 : Int)))),some (vI n7)],p10.2))
else none)
else
some (.inl ([some (vT s3),some (.int .u8 n4),some (vL l5.1 l5.2),some (vI n6),some (vI n7)],j2.2)))).bind fun j1=>joinK j1 fun j1=>
j_TULII j1.1 fun s12 n13 l14 n15 n16=>
some (0,[some (vT s12),some (.int .u8 n13),some (vL l14.1 l14.2),some (vI n15),some (vI (IntKind.wrap .i64 (n16 + (1 : Int))))],j1.2)
else
some (2,[some (vL v5 v5n)],h)) : Option (Nat × Slots × AH)):=by kernel_rfl
theorem r202 {base : Nat} {v0 : ByteArray} {v1 : Int} {h : AH} {r : Value × AH} (hx : ((some (h++[some ⟨[],9⟩])).bind fun h1=>
(loopL (B202_0 base) [some (.string v0),some (.int .u8 v1),some (.slice (some ⟨(List.length h),0,none⟩) 0 0),some (.int .i64 (0 : Int)),some (.int .i64 (0 : Int))] h1).bind fun q2=>
(if q2.1 = 2 then
((sget q2.2.1 0).bind getS).bind fun l3=>
some ((.slice l3.1 l3.2 l3.2),q2.2.2)
else
none)) = some r) : run (Et base) 202 [(vT v0),(.int .u8 v1)] h = some r:=run_i (an:=a202) Try.func202 (by kernel_rfl) (.trans (by kernel_rfl) hx)
noncomputable def B203_1 (base : Nat) : Body:=fun l h=>lay s203_1 l fun s=>exCode (Et base) (run (Et base)) loopL a203_1 (subC [1,1,1,0,1,0,0,1,0,0,1,1,1,1,0,1,0,0] (bodyC Try.f203)) s h (keepK s203_1 e203_1)
noncomputable def B203_0 (base : Nat) : Body:=fun l h=>lay s203_0 l fun s=>exCode (Et base) (run (Et base)) loopL a203_0 (subC [1,1,1,0,1,0,0] (bodyC Try.f203)) s h (keepK s203_0 e203_0)
theorem B203_1_eq (base : Nat) (v2 : Addr) (v4 : Option Addr) (v4n : Nat) (v7 : ByteArray) (v8 : Addr) (v9 : Bool) (v10 : Int) (h : AH) : B203_1 base [some (vA v2),some (vL v4 v4n),some (vT v7),some (vA v8),some (.bool v9),some (vI v10)] h =
(((if (decide (v10 < (v7.size : Int))) = true then
some (.inl ([some (vA v2),some (vL v4 v4n),some (vT v7),some (vA v8),some (.bool v9),some (vI v10),some (.bool v9)],h))
else
some (.inl ([some (vA v2),some (vL v4 v4n),some (vT v7),some (vA v8),some (.bool v9),some (vI v10),some (.bool false)],h)))).bind fun j1=>joinK j1 fun j1=>
j_ALTABIB j1.1 fun d2 l3 s4 d5 b6 n7 b8=>
(if b8 = true then
(if 0≤n7∧n7 < (s4.size : Int) then
(if 0≤(IntKind.wrap .i64 (n7 + (1 : Int)))∧(IntKind.wrap .i64 (n7 + (1 : Int))) < ((l3.2 : Nat) : Int) then
((l3.1 : Option Addr)).bind fun a9=>
((cell j1.2 a9.block (a9.off + Int.toNat (IntKind.wrap .i64 (n7 + (1 : Int))) * 1)).bind getStr).bind fun s10=>
(run (Et base) 224 [(vA d5),(.int .u8 ((s4.data.toList.getD (Int.toNat n7) 0).toNat : Int)),(vT s10)] j1.2).bind fun r11=>
((some r11.1).bind getB).bind fun b12=>
some (0,[some (vA d2),some (vL l3.1 l3.2),some (vT s4),some (vA d5),some (.bool b12),some (vI (IntKind.wrap .i64 (n7 + (1 : Int))))],r11.2)
else none)
else none)
else
some (4,[some (vA d2),some (vA d5),some (.bool b6)],j1.2)) : Option (Nat × Slots × AH)):=by kernel_rfl
theorem B203_0_eq (base : Nat) (v2 : Addr) (v4 : Option Addr) (v4n : Nat) (v5 : Option Addr) (v5n : Nat) (v6 : Int) (h : AH) : B203_0 base [some (vA v2),some (vL v4 v4n),some (vL v5 v5n),some (vI v6)] h =
((if (decide (v6 < ((v5n : Nat) : Int))) = true then
(run (Et base) 181 [] h).bind fun r1=>
((some r1.1).bind getS).bind fun l2=>
(if 0≤v6∧v6 < ((l2.2 : Nat) : Int) then
((l2.1 : Option Addr)).bind fun a3=>
((cell r1.2 a3.block (a3.off + Int.toNat v6 * 1)).bind getStr).bind fun s4=>
(if 0≤v6∧v6 < ((v5n : Nat) : Int) then
((v5 : Option Addr)).bind fun a5=>
((cell r1.2 a5.block (a5.off + Int.toNat v6 * 1)).bind getStr).bind fun s6=>
(if 0≤(0 : Int)∧(0 : Int) < ((v4n : Nat) : Int) then
((v4 : Option Addr)).bind fun a7=>
((cell r1.2 a7.block (a7.off + Int.toNat (0 : Int) * 1)).bind getStr).bind fun s8=>
(if (!(s6.toList == s8.toList)) = true then
some (0,[some (vA v2),some (vL v4 v4n),some (vL v5 v5n),some (vI (IntKind.wrap .i64 (v6 + (1 : Int))))],r1.2)
else
nw1 r1.2 143 [(vI 0),(vI 0),(vI 0),(vI 0),(vI 0),(vT ⟨#[]⟩)] fun h9=>
(wr base h9 (List.length r1.2) 0 [(vI (IntKind.wrap .i64 (v6 + (1 : Int)))),(vI (0 : Int)),(vI (0 : Int)),(vI (0 : Int)),(vI (0 : Int)),(vT (⟨#[]⟩ : ByteArray))]).bind fun h10=>
(loopL (B203_1 base) [some (vA v2),some (vL v4 v4n),some (vT s4),some (vP (List.length r1.2)),some (.bool (((v4n : Nat) : Int) == (IntKind.wrap .i64 ((s4.size : Int) + (1 : Int))))),some (vI (0 : Int))] h10).bind fun q11=>
(if q11.1 = 4 then
j_AAB q11.2.1 fun d12 d13 b14=>
c_IIIIIT q11.2.2 d13.block d13.off fun n15 n16 n17 n18 n19 s20=>
(wr base q11.2.2 d12.block d12.off [(vI n15),(vI n16),(vI n17),(vI n18),(vI n19),(vT s20)]).bind fun h21=>
some (1,[some (vA d12),some (.bool b14)],h21)
else
none))
else none)
else none)
else none)
else
some (2,[some (vA v2)],h)) : Option (Nat × Slots × AH)):=by kernel_rfl
theorem r203 {base : Nat} {v0 : ByteArray} {h : AH} {r : Value × AH} (hx : (nw1 h 143 [(vI 0),(vI 0),(vI 0),(vI 0),(vI 0),(vT ⟨#[]⟩)] fun h1=>
(run (Et base) 202 [(vT v0),(.int .u8 (32 : Int))] h1).bind fun r2=>
((some r2.1).bind getS).bind fun l3=>
(run (Et base) 223 [] r2.2).bind fun r4=>
((some r4.1).bind getS).bind fun l5=>
(loopL (B203_0 base) [some (vP (List.length h)),some (vL l3.1 l3.2),some (vL l5.1 l5.2),some (vI (0 : Int))] r4.2).bind fun q6=>
(if q6.1 = 1 then
j_AB q6.2.1 fun d7 b8=>
c_IIIIIT q6.2.2 d7.block d7.off fun n9 n10 n11 n12 n13 s14=>
some ((.tuple #[(.agg #[(vI n9),(vI n10),(vI n11),(vI n12),(vI n13),(vT s14)]),(.bool b8)]),q6.2.2)
else
(if q6.1 = 2 then
((sget q6.2.1 0).bind getA).bind fun d15=>
(wr base q6.2.2 d15.block d15.off [(vI (0 : Int)),(vI (0 : Int)),(vI (0 : Int)),(vI (0 : Int)),(vI (0 : Int)),(vT (⟨#[]⟩ : ByteArray))]).bind fun h16=>
c_IIIIIT h16 d15.block d15.off fun n17 n18 n19 n20 n21 s22=>
some ((.tuple #[(.agg #[(vI n17),(vI n18),(vI n19),(vI n20),(vI n21),(vT s22)]),(.bool false)]),h16)
else
none))) = some r) : run (Et base) 203 [(vT v0)] h = some r:=run_i (an:=a203) Try.func203 (by kernel_rfl) (.trans (by kernel_rfl) hx)
noncomputable def B204_0 (base : Nat) : Body:=fun l h=>lay s204_0 l fun s=>exCode (Et base) (run (Et base)) loopL a204_0 (subC [1,0,1,0,0] (bodyC Try.f204)) s h (keepK s204_0 e204_0)
theorem B204_0_eq (base : Nat) (v0 : ByteArray) (v1 : Int) (v5 : Int) (h : AH) : B204_0 base [some (vT v0),some (.int .u8 v1),some (vI v5)] h =
((if (decide (v5 < (v0.size : Int))) = true then
(if 0≤v5∧v5 < (v0.size : Int) then
(if (((v0.data.toList.getD (Int.toNat v5) 0).toNat : Int) == v1) = true then
some (1,[some (.bool true)],h)
else
some (0,[some (.string v0),some (.int .u8 v1),some (.int .i64 (IntKind.wrap .i64 (v5 + (1 : Int))))],h))
else none)
else
some (2,[],h)) : Option (Nat × Slots × AH)):=by kernel_rfl
theorem r204 {base : Nat} {v0 : ByteArray} {v1 : Int} {h : AH} {r : Value × AH} (hx : ((loopL (B204_0 base) [some (.string v0),some (.int .u8 v1),some (.int .i64 (0 : Int))] h).bind fun q1=>
(if q1.1 = 1 then
((sget q1.2.1 0).bind getB).bind fun b2=>
some ((.bool b2),q1.2.2)
else
(if q1.1 = 2 then
some ((.bool false),q1.2.2)
else
none))) = some r) : run (Et base) 204 [(vT v0),(.int .u8 v1)] h = some r:=run_i (an:=a204) Try.func204 (by kernel_rfl) (.trans (by kernel_rfl) hx)
theorem r205 {base : Nat} {v0 : Option Addr} {h : AH} {r : Value × AH} (hx : (nw1 h 42 [(vI 0),(vI 0),(vT ⟨#[]⟩),(vL none 0)] fun h1=>
(run (Et base) 156 [(.pointer v0),(vI (2 : Int))] h1).bind fun r2=>
((some r2.1).bind getB).bind fun b3=>
(if b3 = true then
(run (Et base) 133 [(.pointer v0),(vI (4 : Int))] r2.2).bind fun r4=>
((some r4.1).bind (getI .i64)).bind fun n5=>
(run (Et base) 225 [(vI (IntKind.wrap .i64 ((1 : Int) + n5)))] r4.2).bind fun r6=>
gG (some r6.1) 4 fun l7=>
l_IITL l7 fun n8 n9 s10 l11=>
(wr base r6.2 (List.length h) 0 [(vI n8),(vI n9),(vT s10),(vL l11.1 l11.2)]).bind fun h12=>
c_IITL h12 (List.length h) 0 fun n13 n14 s15 l16=>
some ((.agg #[(vI n13),(vI n14),(vT s15),(vL l16.1 l16.2)]),h12)
else
(run (Et base) 133 [(.pointer v0),(vI (9 : Int))] r2.2).bind fun r17=>
((some r17.1).bind (getI .i64)).bind fun n18=>
(run (Et base) 201 [(vI n18)] r17.2).bind fun r19=>
gG (some r19.1) 4 fun l20=>
l_IITL l20 fun n21 n22 s23 l24=>
(wr base r19.2 (List.length h) 0 [(vI n21),(vI n22),(vT s23),(vL l24.1 l24.2)]).bind fun h25=>
c_IITL h25 (List.length h) 0 fun n26 n27 s28 l29=>
some ((.agg #[(vI n26),(vI n27),(vT s28),(vL l29.1 l29.2)]),h25))) = some r) : run (Et base) 205 [(.pointer v0)] h = some r:=run_i (an:=a205) Try.func205 (by kernel_rfl) (.trans (by kernel_rfl) hx)
noncomputable def B206_0 (base : Nat) : Body:=fun l h=>lay s206_0 l fun s=>exCode (Et base) (run (Et base)) loopL a206_0 (subC [1,1,0,1,0,0] (bodyC Try.f206)) s h (keepK s206_0 e206_0)
theorem B206_0_eq (base : Nat) (v0 : Option Addr) (v0n : Nat) (v1 : Int) (v5 : Option Addr) (v5n : Nat) (v6 : Int) (h : AH) : B206_0 base [some (vL v0 v0n),some (vI v1),some (vL v5 v5n),some (vI v6)] h =
((if (decide (v6 < ((v0n : Nat) : Int))) = true then
((if 0≤v6∧v6 < ((v0n : Nat) : Int) then
((v0 : Option Addr)).bind fun a2=>
((cell h a2.block (a2.off + Int.toNat v6 * 1)).bind (getI .i64)).bind fun n3=>
(if (n3 != v1) = true then
(if 0≤v6∧v6 < ((v0n : Nat) : Int) then
((v0 : Option Addr)).bind fun a4=>
((cell h a4.block (a4.off + Int.toNat v6 * 1)).bind (getI .i64)).bind fun n5=>
(some (h++[some ⟨[(.int .i64 n5)],3⟩])).bind fun h6=>
(app base h6 3 1 8 v5 v5n (rawAt h6 (some ⟨(List.length h),0,none⟩) (1 * 1)) 1).bind fun p7=>
((some p7.1).bind getS).bind fun l8=>
some (.inl ([some (.slice v0 v0n v0n),some (.int .i64 v1),some (.slice l8.1 l8.2 l8.2),some (.int .i64 v6)],p7.2))
else none)
else
some (.inl ([some (.slice v0 v0n v0n),some (.int .i64 v1),some (.slice v5 v5n v5n),some (.int .i64 v6)],h)))
else none)).bind fun j1=>joinK j1 fun j1=>
((sget j1.1 0).bind getS).bind fun l9=>
((sget (j1.1.tail) 0).bind (getI .i64)).bind fun n10=>
((sget (j1.1.tail.tail) 0).bind getS).bind fun l11=>
((sget (j1.1.tail.tail.tail) 0).bind (getI .i64)).bind fun n12=>
some (0,[some (.slice l9.1 l9.2 l9.2),some (.int .i64 n10),some (.slice l11.1 l11.2 l11.2),some (.int .i64 (IntKind.wrap .i64 (n12 + (1 : Int))))],j1.2)
else
some (2,[some (.slice v5 v5n v5n)],h)) : Option (Nat × Slots × AH)):=by kernel_rfl
theorem r206 {base : Nat} {v0 : Option Addr} {v0n : Nat} {v1 : Int} {h : AH} {r : Value × AH} (hx : ((some (h++[some ⟨[],3⟩])).bind fun h1=>
(loopL (B206_0 base) [some (.slice v0 v0n v0n),some (.int .i64 v1),some (.slice (some ⟨(List.length h),0,none⟩) 0 0),some (.int .i64 (0 : Int))] h1).bind fun q2=>
(if q2.1 = 2 then
((sget q2.2.1 0).bind getS).bind fun l3=>
some ((.slice l3.1 l3.2 l3.2),q2.2.2)
else
none)) = some r) : run (Et base) 206 [(vL v0 v0n),(vI v1)] h = some r:=run_i (an:=a206) Try.func206 (by kernel_rfl) (.trans (by kernel_rfl) hx)
noncomputable def B207_0 (base : Nat) : Body:=fun l h=>lay s207_0 l fun s=>exCode (Et base) (run (Et base)) loopL a207_0 (subC [1,1,0,1,0,0] (bodyC Try.f207)) s h (keepK s207_0 e207_0)
theorem B207_0_eq (base : Nat) (v2 : Addr) (v3 : Addr) (v5 : Int) (h : AH) : B207_0 base [some (vA v2),some (vA v3),some (vI v5)] h =
(((cell h v2.block (v2.off + 3)).bind getS).bind fun l1=>
(if (decide (v5 < ((l1.2 : Nat) : Int))) = true then
((cell h v2.block (v2.off + 3)).bind getS).bind fun l2=>
(if 0≤v5∧v5 < ((l2.2 : Nat) : Int) then
((l2.1 : Option Addr)).bind fun a3=>
c_IITL h a3.block (a3.off + Int.toNat v5 * 4) fun n4 n5 s6 l7=>
((cell h v3.block (v3.off + 3)).bind getS).bind fun l8=>
(if 0≤v5∧v5 < ((l8.2 : Nat) : Int) then
((l8.1 : Option Addr)).bind fun a9=>
c_IITL h a9.block (a9.off + Int.toNat v5 * 4) fun n10 n11 s12 l13=>
(run (Et base) 207 [(.agg #[(vI n4),(vI n5),(vT s6),(vL l7.1 l7.2)]),(.agg #[(vI n10),(vI n11),(vT s12),(vL l13.1 l13.2)])] h).bind fun r14=>
((some r14.1).bind getB).bind fun b15=>
(if (!b15) = true then
some (1,[some (.bool false)],r14.2)
else
some (0,[some (vA v2),some (vA v3),some (vI (IntKind.wrap .i64 (v5 + (1 : Int))))],r14.2))
else none)
else none)
else
some (2,[],h)) : Option (Nat × Slots × AH)):=by kernel_rfl
theorem r207 {base : Nat} {v0_0 : Int} {v0_1 : Int} {v0_2 : ByteArray} {v0_3 : Option Addr} {v0_3n : Nat} {v1_0 : Int} {v1_1 : Int} {v1_2 : ByteArray} {v1_3 : Option Addr} {v1_3n : Nat} {h : AH} {r : Value × AH} (hx : (nw1 h 42 [(vI v0_0),(vI v0_1),(vT v0_2),(vL v0_3 v0_3n)] fun h1=>
nw1 h1 42 [(vI v1_0),(vI v1_1),(vT v1_2),(vL v1_3 v1_3n)] fun h2=>
(((cell h2 (List.length h) 0).bind (getI .i64)).bind fun n4=>
((cell h2 (List.length h1) 0).bind (getI .i64)).bind fun n5=>
(if (n4 != n5) = true then
some (.inl ([some (vP (List.length h)),some (vP (List.length h1)),some (.bool true)],h2))
else
((cell h2 (List.length h) 1).bind (getI .i64)).bind fun n6=>
((cell h2 (List.length h1) 1).bind (getI .i64)).bind fun n7=>
(if (n6 != n7) = true then
some (.inl ([some (vP (List.length h)),some (vP (List.length h1)),some (.bool true)],h2))
else
((cell h2 (List.length h) 2).bind getStr).bind fun s8=>
((cell h2 (List.length h1) 2).bind getStr).bind fun s9=>
(if (!(s8.toList == s9.toList)) = true then
some (.inl ([some (vP (List.length h)),some (vP (List.length h1)),some (.bool true)],h2))
else
((cell h2 (List.length h) 3).bind getS).bind fun l10=>
((cell h2 (List.length h1) 3).bind getS).bind fun l11=>
some (.inl ([some (vP (List.length h)),some (vP (List.length h1)),some (.bool (((l10.2 : Nat) : Int) != ((l11.2 : Nat) : Int)))],h2)))))).bind fun j3=>joinK j3 fun j3=>
j_AAB j3.1 fun d12 d13 b14=>
(if b14 = true then
some ((.bool false),j3.2)
else
(loopL (B207_0 base) [some (vA d12),some (vA d13),some (vI (0 : Int))] j3.2).bind fun q15=>
(if q15.1 = 1 then
((sget q15.2.1 0).bind getB).bind fun b16=>
some ((.bool b16),q15.2.2)
else
(if q15.1 = 2 then
some ((.bool true),q15.2.2)
else
none)))) = some r) : run (Et base) 207 [(.agg #[(vI v0_0),(vI v0_1),(vT v0_2),(vL v0_3 v0_3n)]),(.agg #[(vI v1_0),(vI v1_1),(vT v1_2),(vL v1_3 v1_3n)])] h = some r:=run_i (an:=a207) Try.func207 (by kernel_rfl) (.trans (by kernel_rfl) hx)
theorem r208 {base : Nat} {v0 : ByteArray} {h : AH} {r : Value × AH} (hx : ((some (h++[some ⟨[(.int .i64 0),(.int .i64 0),(.string ⟨#[]⟩),(.slice none 0 0)],42⟩])).bind fun h1=>
(wr base h1 (List.length h) 0 [(.int .i64 (2 : Int)),(.int .i64 (0 : Int)),(.string v0),(.slice none 0 0)]).bind fun h2=>
((cell h2 (List.length h) 0).bind (getI .i64)).bind fun n3=>
((cell h2 (List.length h) 1).bind (getI .i64)).bind fun n4=>
((cell h2 (List.length h) 2).bind getStr).bind fun s5=>
((cell h2 (List.length h) 3).bind getS).bind fun l6=>
some ((.agg #[(.int .i64 n3),(.int .i64 n4),(.string s5),(.slice l6.1 l6.2 l6.2)]),h2)) = some r) : run (Et base) 208 [(vT v0)] h = some r:=run_i (an:=a208) Try.func208 (by kernel_rfl) (.trans (by kernel_rfl) hx)
noncomputable abbrev qf209 (base : Nat) (v0 : Option Addr) (v0n : Nat) (v1_0 : Int) (v1_1 : Int) (v1_2 : Option Addr) (v1_2n : Nat) (v1_3 : Option Addr) (v1_3n : Nat) (v1_4 : Option Addr) (v1_4n : Nat) (v2 : Int) (h : AH) : Option (Value × AH):=
nw1 h 54 [(vI v1_0),(vI v1_1),(vL v1_2 v1_2n),(vL v1_3 v1_3n),(vL v1_4 v1_4n)] fun h1=>
nw1 h1 54 [(vI 0),(vI 0),(vL none 0),(vL none 0),(vL none 0)] fun h2=>
nw1 h2 224 [(vI 0),(vI 0),(vI 0),(vI 0),(vI 0),(vT ⟨#[]⟩),(vL none 0)] fun h3=>
((cell h3 (List.length h) 1).bind (getI .i64)).bind fun n4=>
(if 0≤n4∧n4 < ((v0n : Nat) : Int) then
((v0 : Option Addr)).bind fun a5=>
c_IIIIIT h3 a5.block (a5.off + Int.toNat n4 * 6) fun n6 n7 n8 n9 n10 s11=>
nw1 h3 143 [(vI 0),(vI 0),(vI 0),(vI 0),(vI 0),(vT ⟨#[]⟩)] fun h12=>
(wr base h12 (List.length h3) 0 [(vI n6),(vI n7),(vI n8),(vI n9),(vI n10),(vT s11)]).bind fun h13=>
c_IILLL h13 (List.length h) 0 fun n14 n15 l16 l17 l18=>
(run (Et base) 115 [(.agg #[(vI n14),(vI n15),(vL l16.1 l16.2),(vL l17.1 l17.2),(vL l18.1 l18.2)])] h13).bind fun r19=>
gG (some r19.1) 5 fun l20=>
l_IILLL l20 fun n21 n22 l23 l24 l25=>
nw1 r19.2 54 [(vI 0),(vI 0),(vL none 0),(vL none 0),(vL none 0)] fun h26=>
(wr base h26 (List.length r19.2) 0 [(vI n21),(vI n22),(vL l23.1 l23.2),(vL l24.1 l24.2),(vL l25.1 l25.2)]).bind fun h27=>
((cell h27 (List.length h) 1).bind (getI .i64)).bind fun n28=>
(wr base h27 (List.length r19.2) 1 [(vI (IntKind.wrap .i64 (n28 + (1 : Int))))]).bind fun h29=>
nw1 h29 224 [(vI 0),(vI 0),(vI 0),(vI 0),(vI 0),(vT ⟨#[]⟩),(vL none 0)] fun h30=>
(wr base h30 (List.length h29) 0 [(vI (1 : Int)),(vI (0 : Int)),(vI (0 : Int)),(vI (0 : Int)),(vI (0 : Int)),(vT (⟨#[]⟩ : ByteArray)),(vL none 0)]).bind fun h31=>
((cell h31 (List.length h) 2).bind getS).bind fun l32=>
((cell h31 (List.length h3) 1).bind (getI .i64)).bind fun n33=>
(if 0≤n33∧n33 < ((l32.2 : Nat) : Int) then
((l32.1 : Option Addr)).bind fun a34=>
c_IITL h31 a34.block (a34.off + Int.toNat n33 * 4) fun n35 n36 s37 l38=>
(run (Et base) 116 [(.agg #[(vI n35),(vI n36),(vT s37),(vL l38.1 l38.2)])] h31).bind fun r39=>
gG (some r39.1) 4 fun l40=>
l_IITL l40 fun n41 n42 s43 l44=>
nw1 r39.2 42 [(vI 0),(vI 0),(vT ⟨#[]⟩),(vL none 0)] fun h45=>
(wr base h45 (List.length r39.2) 0 [(vI n41),(vI n42),(vT s43),(vL l44.1 l44.2)]).bind fun h46=>
((cell h46 (List.length h3) 0).bind (getI .i64)).bind fun n47=>
(if (n47 == (10 : Int)) = true then
(c_IITL h46 (List.length r39.2) 0 fun n49 n50 s51 l52=>
((cell h46 (List.length h) 2).bind getS).bind fun l53=>
((cell h46 (List.length h3) 2).bind (getI .i64)).bind fun n54=>
(if 0≤n54∧n54 < ((l53.2 : Nat) : Int) then
((l53.1 : Option Addr)).bind fun a55=>
c_IITL h46 a55.block (a55.off + Int.toNat n54 * 4) fun n56 n57 s58 l59=>
(run (Et base) 207 [(.agg #[(vI n49),(vI n50),(vT s51),(vL l52.1 l52.2)]),(.agg #[(vI n56),(vI n57),(vT s58),(vL l59.1 l59.2)])] h46).bind fun r60=>
((some r60.1).bind getB).bind fun b61=>
(if (!b61) = true then
((cell r60.2 (List.length h3) 4).bind (getI .i64)).bind fun n62=>
(wr base r60.2 (List.length r19.2) 1 [(vI n62)]).bind fun h63=>
some (.inl ([some (vP (List.length h1)),some (vP (List.length h2)),some (vP (List.length r19.2)),some (vP (List.length h29))],h63))
else
some (.inl ([some (vP (List.length h1)),some (vP (List.length h2)),some (vP (List.length r19.2)),some (vP (List.length h29))],r60.2)))
else none)).bind fun j48=>joinK j48 fun j48=>
j_AAAA j48.1 fun d64 d65 d66 d67=>
c_IILLL j48.2 d66.block d66.off fun n68 n69 l70 l71 l72=>
c_IIIIITL j48.2 d67.block d67.off fun n73 n74 n75 n76 n77 s78 l79=>
(wr base j48.2 d64.block d64.off [(vI n68),(vI n69),(vL l70.1 l70.2),(vL l71.1 l71.2),(vL l72.1 l72.2)]).bind fun h80=>
(gate (sameA j48.2 h80 (some d67) 7)
((wr base h80 d65.block d65.off [(vI n73),(vI n74),(vI n75),(vI n76),(vI n77),(vT s78),(vL l79.1 l79.2)]).bind fun h81=>
c_IILLL h81 d64.block d64.off fun n82 n83 l84 l85 l86=>
c_IIIIITL h81 d65.block d65.off fun n87 n88 n89 n90 n91 s92 l93=>
some ((.tuple #[(.agg #[(vI n82),(vI n83),(vL l84.1 l84.2),(vL l85.1 l85.2),(vL l86.1 l86.2)]),(.agg #[(vI n87),(vI n88),(vI n89),(vI n90),(vI n91),(vT s92),(vL l93.1 l93.2)])]),h81)))
else
(if (n47 == (11 : Int)) = true then
(((cell h46 (List.length r39.2) 0).bind (getI .i64)).bind fun n95=>
((cell h46 (List.length h3) 2).bind (getI .i64)).bind fun n96=>
(if (n95 != n96) = true then
((cell h46 (List.length h3) 4).bind (getI .i64)).bind fun n97=>
(wr base h46 (List.length r19.2) 1 [(vI n97)]).bind fun h98=>
some (.inl ([some (vP (List.length h1)),some (vP (List.length h2)),some (vP (List.length r19.2)),some (vP (List.length h29))],h98))
else
some (.inl ([some (vP (List.length h1)),some (vP (List.length h2)),some (vP (List.length r19.2)),some (vP (List.length h29))],h46)))).bind fun j94=>joinK j94 fun j94=>
j_AAAA j94.1 fun d99 d100 d101 d102=>
c_IILLL j94.2 d101.block d101.off fun n103 n104 l105 l106 l107=>
c_IIIIITL j94.2 d102.block d102.off fun n108 n109 n110 n111 n112 s113 l114=>
(wr base j94.2 d99.block d99.off [(vI n103),(vI n104),(vL l105.1 l105.2),(vL l106.1 l106.2),(vL l107.1 l107.2)]).bind fun h115=>
(gate (sameA j94.2 h115 (some d102) 7)
((wr base h115 d100.block d100.off [(vI n108),(vI n109),(vI n110),(vI n111),(vI n112),(vT s113),(vL l114.1 l114.2)]).bind fun h116=>
c_IILLL h116 d99.block d99.off fun n117 n118 l119 l120 l121=>
c_IIIIITL h116 d100.block d100.off fun n122 n123 n124 n125 n126 s127 l128=>
some ((.tuple #[(.agg #[(vI n117),(vI n118),(vL l119.1 l119.2),(vL l120.1 l120.2),(vL l121.1 l121.2)]),(.agg #[(vI n122),(vI n123),(vI n124),(vI n125),(vI n126),(vT s127),(vL l128.1 l128.2)])]),h116)))
else
(if (n47 == (12 : Int)) = true then
((cell h46 (List.length h3) 4).bind (getI .i64)).bind fun n129=>
(wr base h46 (List.length r19.2) 1 [(vI n129)]).bind fun h130=>
c_IILLL h130 (List.length r19.2) 0 fun n131 n132 l133 l134 l135=>
c_IIIIITL h130 (List.length h29) 0 fun n136 n137 n138 n139 n140 s141 l142=>
(wr base h130 (List.length h1) 0 [(vI n131),(vI n132),(vL l133.1 l133.2),(vL l134.1 l134.2),(vL l135.1 l135.2)]).bind fun h143=>
(gate (sameA h130 h143 (some ⟨(List.length h29),0,none⟩) 7)
((wr base h143 (List.length h2) 0 [(vI n136),(vI n137),(vI n138),(vI n139),(vI n140),(vT s141),(vL l142.1 l142.2)]).bind fun h144=>
c_IILLL h144 (List.length h1) 0 fun n145 n146 l147 l148 l149=>
c_IIIIITL h144 (List.length h2) 0 fun n150 n151 n152 n153 n154 s155 l156=>
some ((.tuple #[(.agg #[(vI n145),(vI n146),(vL l147.1 l147.2),(vL l148.1 l148.2),(vL l149.1 l149.2)]),(.agg #[(vI n150),(vI n151),(vI n152),(vI n153),(vI n154),(vT s155),(vL l156.1 l156.2)])]),h144)))
else
((if (n47 == (13 : Int)) = true then
some (.inl ([some (vI v2),some (vP (List.length h)),some (vP (List.length h1)),some (vP (List.length h2)),some (vP (List.length h3)),some (vP (List.length r19.2)),some (vP (List.length h29)),some (vP (List.length r39.2)),some (vI n47),some (.bool (n47 == (13 : Int)))],h46))
else
some (.inl ([some (vI v2),some (vP (List.length h)),some (vP (List.length h1)),some (vP (List.length h2)),some (vP (List.length h3)),some (vP (List.length r19.2)),some (vP (List.length h29)),some (vP (List.length r39.2)),some (vI n47),some (.bool (n47 == (18 : Int)))],h46)))).bind fun j157=>joinK j157 fun j157=>
j_IAAAAAAAIB j157.1 fun n158 d159 d160 d161 d162 d163 d164 d165 n166 b167=>
(if b167 = true then
((cell j157.2 d165.block (d165.off + 0)).bind (getI .i64)).bind fun n168=>
(if (n168 != (3 : Int)) = true then
c_IILLL j157.2 d159.block d159.off fun n169 n170 l171 l172 l173=>
(run (Et base) 115 [(.agg #[(vI n169),(vI n170),(vL l171.1 l171.2),(vL l172.1 l172.2),(vL l173.1 l173.2)])] j157.2).bind fun r174=>
gG (some r174.1) 5 fun l175=>
l_IILLL l175 fun n176 n177 l178 l179 l180=>
(run (Et base) 226 [(.agg #[(vI n176),(vI n177),(vL l178.1 l178.2),(vL l179.1 l179.2),(vL l180.1 l180.2)])] r174.2).bind fun r181=>
(getTup 2 r181.1).bind fun l182=>
gG (l182[0]?) 5 fun l183=>
l_IILLL l183 fun n184 n185 l186 l187 l188=>
gG (l182[1]?) 7 fun l189=>
l_IIIIITL l189 fun n190 n191 n192 n193 n194 s195 l196=>
(wr base r181.2 d160.block d160.off [(vI n184),(vI n185),(vL l186.1 l186.2),(vL l187.1 l187.2),(vL l188.1 l188.2)]).bind fun h197=>
(wr base h197 d161.block d161.off [(vI n190),(vI n191),(vI n192),(vI n193),(vI n194),(vT s195),(vL l196.1 l196.2)]).bind fun h198=>
c_IILLL h198 d160.block d160.off fun n199 n200 l201 l202 l203=>
c_IIIIITL h198 d161.block d161.off fun n204 n205 n206 n207 n208 s209 l210=>
some ((.tuple #[(.agg #[(vI n199),(vI n200),(vL l201.1 l201.2),(vL l202.1 l202.2),(vL l203.1 l203.2)]),(.agg #[(vI n204),(vI n205),(vI n206),(vI n207),(vI n208),(vT s209),(vL l210.1 l210.2)])]),h198)
else
((cell j157.2 d162.block (d162.off + 0)).bind (getI .i64)).bind fun n211=>
(if (n211 == (18 : Int)) = true then
c_IILLL j157.2 d163.block d163.off fun n212 n213 l214 l215 l216=>
((cell j157.2 d165.block (d165.off + 1)).bind (getI .i64)).bind fun n217=>
(wr base j157.2 d160.block d160.off [(vI n212),(vI n213),(vL l214.1 l214.2),(vL l215.1 l215.2),(vL l216.1 l216.2)]).bind fun h218=>
(gate (sameA j157.2 h218 (some ⟨d165.block,(d165.off + 1),none⟩) 1)
((wr base h218 d161.block d161.off [(vI (6 : Int)),(vI n217),(vI (0 : Int)),(vI (0 : Int)),(vI (0 : Int)),(vT (⟨#[]⟩ : ByteArray)),(vL none 0)]).bind fun h219=>
c_IILLL h219 d160.block d160.off fun n220 n221 l222 l223 l224=>
c_IIIIITL h219 d161.block d161.off fun n225 n226 n227 n228 n229 s230 l231=>
some ((.tuple #[(.agg #[(vI n220),(vI n221),(vL l222.1 l222.2),(vL l223.1 l223.2),(vL l224.1 l224.2)]),(.agg #[(vI n225),(vI n226),(vI n227),(vI n228),(vI n229),(vT s230),(vL l231.1 l231.2)])]),h219)))
else
c_IILLL j157.2 d163.block d163.off fun n232 n233 l234 l235 l236=>
((cell j157.2 d165.block (d165.off + 1)).bind (getI .i64)).bind fun n237=>
((cell j157.2 d159.block (d159.off + 2)).bind getS).bind fun l238=>
((cell j157.2 d162.block (d162.off + 2)).bind (getI .i64)).bind fun n239=>
(if 0≤n239∧n239 < ((l238.2 : Nat) : Int) then
((l238.1 : Option Addr)).bind fun a240=>
c_IITL j157.2 a240.block (a240.off + Int.toNat n239 * 4) fun n241 n242 s243 l244=>
(run (Et base) 116 [(.agg #[(vI n241),(vI n242),(vT s243),(vL l244.1 l244.2)])] j157.2).bind fun r245=>
gG (some r245.1) 4 fun l246=>
l_IITL l246 fun n247 n248 s249 l250=>
(gate (sameA j157.2 r245.2 (some ⟨d165.block,(d165.off + 1),none⟩) 1)
((gate (sameA j157.2 r245.2 (some d163) 5)
((wr base r245.2 d160.block d160.off [(vI n232),(vI n233),(vL l234.1 l234.2),(vL l235.1 l235.2),(vL l236.1 l236.2)]).bind fun h251=>
(gate (sameA r245.2 h251 (some ⟨d165.block,(d165.off + 1),none⟩) 1)
((wr base h251 d161.block d161.off [(vI (3 : Int)),(vI n237),(vI (0 : Int)),(vI n247),(vI n248),(vT s249),(vL l250.1 l250.2)]).bind fun h252=>
c_IILLL h252 d160.block d160.off fun n253 n254 l255 l256 l257=>
c_IIIIITL h252 d161.block d161.off fun n258 n259 n260 n261 n262 s263 l264=>
some ((.tuple #[(.agg #[(vI n253),(vI n254),(vL l255.1 l255.2),(vL l256.1 l256.2),(vL l257.1 l257.2)]),(.agg #[(vI n258),(vI n259),(vI n260),(vI n261),(vI n262),(vT s263),(vL l264.1 l264.2)])]),h252)))))))
else none)))
else
(if (n166 == (17 : Int)) = true then
c_IILLL j157.2 d163.block d163.off fun n265 n266 l267 l268 l269=>
c_IITL j157.2 d165.block d165.off fun n270 n271 s272 l273=>
(wr base j157.2 d160.block d160.off [(vI n265),(vI n266),(vL l267.1 l267.2),(vL l268.1 l268.2),(vL l269.1 l269.2)]).bind fun h274=>
(gate (sameA j157.2 h274 (some d165) 4)
((wr base h274 d161.block d161.off [(vI (5 : Int)),(vI (0 : Int)),(vI (0 : Int)),(vI n270),(vI n271),(vT s272),(vL l273.1 l273.2)]).bind fun h275=>
c_IILLL h275 d160.block d160.off fun n276 n277 l278 l279 l280=>
c_IIIIITL h275 d161.block d161.off fun n281 n282 n283 n284 n285 s286 l287=>
some ((.tuple #[(.agg #[(vI n276),(vI n277),(vL l278.1 l278.2),(vL l279.1 l279.2),(vL l280.1 l280.2)]),(.agg #[(vI n281),(vI n282),(vI n283),(vI n284),(vI n285),(vT s286),(vL l287.1 l287.2)])]),h275)))
else
(if (n166 == (19 : Int)) = true then
((cell j157.2 d159.block (d159.off + 1)).bind (getI .i64)).bind fun n288=>
(wr base j157.2 d163.block (d163.off + 1) [(vI n288)]).bind fun h289=>
c_IILLL h289 d163.block d163.off fun n290 n291 l292 l293 l294=>
c_IITL h289 d165.block d165.off fun n295 n296 s297 l298=>
(wr base h289 d160.block d160.off [(vI n290),(vI n291),(vL l292.1 l292.2),(vL l293.1 l293.2),(vL l294.1 l294.2)]).bind fun h299=>
(gate (sameA h289 h299 (some d165) 4)
((wr base h299 d161.block d161.off [(vI (7 : Int)),(vI (0 : Int)),(vI (0 : Int)),(vI n295),(vI n296),(vT s297),(vL l298.1 l298.2)]).bind fun h300=>
c_IILLL h300 d160.block d160.off fun n301 n302 l303 l304 l305=>
c_IIIIITL h300 d161.block d161.off fun n306 n307 n308 n309 n310 s311 l312=>
some ((.tuple #[(.agg #[(vI n301),(vI n302),(vL l303.1 l303.2),(vL l304.1 l304.2),(vL l305.1 l305.2)]),(.agg #[(vI n306),(vI n307),(vI n308),(vI n309),(vI n310),(vT s311),(vL l312.1 l312.2)])]),h300)))
else
(if (n166 == (14 : Int)) = true then
((cell j157.2 d159.block (d159.off + 3)).bind getS).bind fun l313=>
(if (((l313.2 : Nat) : Int) == (0 : Int)) = true then
c_IILLL j157.2 d159.block d159.off fun n314 n315 l316 l317 l318=>
(run (Et base) 115 [(.agg #[(vI n314),(vI n315),(vL l316.1 l316.2),(vL l317.1 l317.2),(vL l318.1 l318.2)])] j157.2).bind fun r319=>
gG (some r319.1) 5 fun l320=>
l_IILLL l320 fun n321 n322 l323 l324 l325=>
(wr base r319.2 d160.block d160.off [(vI n321),(vI n322),(vL l323.1 l323.2),(vL l324.1 l324.2),(vL l325.1 l325.2)]).bind fun h326=>
(wr base h326 d161.block d161.off [(vI (2 : Int)),(vI (0 : Int)),(vI (0 : Int)),(vI (0 : Int)),(vI (0 : Int)),(vT (⟨#[]⟩ : ByteArray)),(vL none 0)]).bind fun h327=>
c_IILLL h327 d160.block d160.off fun n328 n329 l330 l331 l332=>
c_IIIIITL h327 d161.block d161.off fun n333 n334 n335 n336 n337 s338 l339=>
some ((.tuple #[(.agg #[(vI n328),(vI n329),(vL l330.1 l330.2),(vL l331.1 l331.2),(vL l332.1 l332.2)]),(.agg #[(vI n333),(vI n334),(vI n335),(vI n336),(vI n337),(vT s338),(vL l339.1 l339.2)])]),h327)
else
((cell j157.2 d163.block (d163.off + 2)).bind getS).bind fun l340=>
((cell j157.2 d162.block (d162.off + 1)).bind (getI .i64)).bind fun n341=>
((cell j157.2 d163.block (d163.off + 3)).bind getS).bind fun l342=>
(if 0≤(0 : Int)∧(0 : Int) < ((l342.2 : Nat) : Int) then
((l342.1 : Option Addr)).bind fun a343=>
c_IITL j157.2 a343.block (a343.off + Int.toNat (0 : Int) * 4) fun n344 n345 s346 l347=>
(if 0≤n341∧n341 < ((l340.2 : Nat) : Int) then
((l340.1 : Option Addr)).bind fun a348=>
(wr base j157.2 a348.block (a348.off + Int.toNat n341 * 4) [(vI n344),(vI n345),(vT s346),(vL l347.1 l347.2)]).bind fun h349=>
((cell h349 d163.block (d163.off + 3)).bind getS).bind fun l350=>
(if 0≤(1 : Int)∧(1 : Int)≤((l350.2 : Nat) : Int)∧((l350.2 : Nat) : Int)≤((l350.2 : Nat) : Int)∧okTy base h349 l350.1 42 (Int.toNat (1 : Int)) = true then
(wr base h349 d163.block (d163.off + 3) [(.slice (shiftA l350.1 (Int.toNat (1 : Int) * 4)) (Int.toNat ((l350.2 : Nat) : Int) - Int.toNat (1 : Int)) (Int.toNat ((l350.2 : Nat) : Int) - Int.toNat (1 : Int)))]).bind fun h351=>
c_IILLL h351 d163.block d163.off fun n352 n353 l354 l355 l356=>
c_IIIIITL h351 d164.block d164.off fun n357 n358 n359 n360 n361 s362 l363=>
(wr base h351 d160.block d160.off [(vI n352),(vI n353),(vL l354.1 l354.2),(vL l355.1 l355.2),(vL l356.1 l356.2)]).bind fun h364=>
(gate (sameA h351 h364 (some d164) 7)
((wr base h364 d161.block d161.off [(vI n357),(vI n358),(vI n359),(vI n360),(vI n361),(vT s362),(vL l363.1 l363.2)]).bind fun h365=>
c_IILLL h365 d160.block d160.off fun n366 n367 l368 l369 l370=>
c_IIIIITL h365 d161.block d161.off fun n371 n372 n373 n374 n375 s376 l377=>
some ((.tuple #[(.agg #[(vI n366),(vI n367),(vL l368.1 l368.2),(vL l369.1 l369.2),(vL l370.1 l370.2)]),(.agg #[(vI n371),(vI n372),(vI n373),(vI n374),(vI n375),(vT s376),(vL l377.1 l377.2)])]),h365)))
else none)
else none)
else none))
else
c_IIIIIT j157.2 d162.block d162.off fun n378 n379 n380 n381 n382 s383=>
c_IILLL j157.2 d159.block d159.off fun n384 n385 l386 l387 l388=>
(run (Et base) 227 [(.agg #[(vI n378),(vI n379),(vI n380),(vI n381),(vI n382),(vT s383)]),(.agg #[(vI n384),(vI n385),(vL l386.1 l386.2),(vL l387.1 l387.2),(vL l388.1 l388.2)]),(vI n158)] j157.2).bind fun r389=>
(getTup 2 r389.1).bind fun l390=>
gG (l390[0]?) 4 fun l391=>
l_IITL l391 fun n392 n393 s394 l395=>
((l390[1]?).bind getB).bind fun b396=>
nw1 r389.2 42 [(vI 0),(vI 0),(vT ⟨#[]⟩),(vL none 0)] fun h397=>
(wr base h397 (List.length r389.2) 0 [(vI n392),(vI n393),(vT s394),(vL l395.1 l395.2)]).bind fun h398=>
((if (!b396) = true then
some (.inl ([some (vI n158),some (vA d159),some (vA d160),some (vA d161),some (vA d162),some (vA d163),some (vA d164),some (vP (List.length r389.2)),some (.bool true)],h398))
else
c_IITL h398 (List.length r389.2) 0 fun n400 n401 s402 l403=>
(run (Et base) 58 [(.agg #[(vI n400),(vI n401),(vT s402),(vL l403.1 l403.2)])] h398).bind fun r404=>
((some r404.1).bind getB).bind fun b405=>
some (.inl ([some (vI n158),some (vA d159),some (vA d160),some (vA d161),some (vA d162),some (vA d163),some (vA d164),some (vP (List.length r389.2)),some (.bool (!b405))],r404.2)))).bind fun j399=>joinK j399 fun j399=>
j_IAAAAAAAB j399.1 fun n406 d407 d408 d409 d410 d411 d412 d413 b414=>
(if b414 = true then
c_IILLL j399.2 d407.block d407.off fun n415 n416 l417 l418 l419=>
(run (Et base) 115 [(.agg #[(vI n415),(vI n416),(vL l417.1 l417.2),(vL l418.1 l418.2),(vL l419.1 l419.2)])] j399.2).bind fun r420=>
gG (some r420.1) 5 fun l421=>
l_IILLL l421 fun n422 n423 l424 l425 l426=>
(run (Et base) 226 [(.agg #[(vI n422),(vI n423),(vL l424.1 l424.2),(vL l425.1 l425.2),(vL l426.1 l426.2)])] r420.2).bind fun r427=>
(getTup 2 r427.1).bind fun l428=>
gG (l428[0]?) 5 fun l429=>
l_IILLL l429 fun n430 n431 l432 l433 l434=>
gG (l428[1]?) 7 fun l435=>
l_IIIIITL l435 fun n436 n437 n438 n439 n440 s441 l442=>
(wr base r427.2 d408.block d408.off [(vI n430),(vI n431),(vL l432.1 l432.2),(vL l433.1 l433.2),(vL l434.1 l434.2)]).bind fun h443=>
(wr base h443 d409.block d409.off [(vI n436),(vI n437),(vI n438),(vI n439),(vI n440),(vT s441),(vL l442.1 l442.2)]).bind fun h444=>
c_IILLL h444 d408.block d408.off fun n445 n446 l447 l448 l449=>
c_IIIIITL h444 d409.block d409.off fun n450 n451 n452 n453 n454 s455 l456=>
some ((.tuple #[(.agg #[(vI n445),(vI n446),(vL l447.1 l447.2),(vL l448.1 l448.2),(vL l449.1 l449.2)]),(.agg #[(vI n450),(vI n451),(vI n452),(vI n453),(vI n454),(vT s455),(vL l456.1 l456.2)])]),h444)
else
(((cell j399.2 d410.block (d410.off + 0)).bind (getI .i64)).bind fun n458=>
(if (n458 == (16 : Int)) = true then
((cell j399.2 d410.block (d410.off + 4)).bind (getI .i64)).bind fun n459=>
((cell j399.2 d407.block (d407.off + 2)).bind getS).bind fun l460=>
((cell j399.2 d410.block (d410.off + 2)).bind (getI .i64)).bind fun n461=>
(if 0≤n461∧n461 < ((l460.2 : Nat) : Int) then
((l460.1 : Option Addr)).bind fun a462=>
c_IITL j399.2 a462.block (a462.off + Int.toNat n461 * 4) fun n463 n464 s465 l466=>
(run (Et base) 116 [(.agg #[(vI n463),(vI n464),(vT s465),(vL l466.1 l466.2)])] j399.2).bind fun r467=>
gG (some r467.1) 4 fun l468=>
l_IITL l468 fun n469 n470 s471 l472=>
(gate (sameA j399.2 r467.2 (some ⟨d410.block,(d410.off + 4),none⟩) 1)
((wr base r467.2 d412.block d412.off [(vI (4 : Int)),(vI n406),(vI n459),(vI n469),(vI n470),(vT s471),(vL l472.1 l472.2)]).bind fun h473=>
some (.inl ([some (vA d408),some (vA d409),some (vA d410),some (vA d411),some (vA d412),some (vA d413)],h473))))
else none)
else
some (.inl ([some (vA d408),some (vA d409),some (vA d410),some (vA d411),some (vA d412),some (vA d413)],j399.2)))).bind fun j457=>joinK j457 fun j457=>
j_AAAAAA j457.1 fun d474 d475 d476 d477 d478 d479=>
((cell j457.2 d477.block (d477.off + 2)).bind getS).bind fun l480=>
((cell j457.2 d476.block (d476.off + 1)).bind (getI .i64)).bind fun n481=>
c_IITL j457.2 d479.block d479.off fun n482 n483 s484 l485=>
(if 0≤n481∧n481 < ((l480.2 : Nat) : Int) then
((l480.1 : Option Addr)).bind fun a486=>
(wr base j457.2 a486.block (a486.off + Int.toNat n481 * 4) [(vI n482),(vI n483),(vT s484),(vL l485.1 l485.2)]).bind fun h487=>
c_IILLL h487 d477.block d477.off fun n488 n489 l490 l491 l492=>
c_IIIIITL h487 d478.block d478.off fun n493 n494 n495 n496 n497 s498 l499=>
(wr base h487 d474.block d474.off [(vI n488),(vI n489),(vL l490.1 l490.2),(vL l491.1 l491.2),(vL l492.1 l492.2)]).bind fun h500=>
(gate (sameA h487 h500 (some d478) 7)
((wr base h500 d475.block d475.off [(vI n493),(vI n494),(vI n495),(vI n496),(vI n497),(vT s498),(vL l499.1 l499.2)]).bind fun h501=>
c_IILLL h501 d474.block d474.off fun n502 n503 l504 l505 l506=>
c_IIIIITL h501 d475.block d475.off fun n507 n508 n509 n510 n511 s512 l513=>
some ((.tuple #[(.agg #[(vI n502),(vI n503),(vL l504.1 l504.2),(vL l505.1 l505.2),(vL l506.1 l506.2)]),(.agg #[(vI n507),(vI n508),(vI n509),(vI n510),(vI n511),(vT s512),(vL l513.1 l513.2)])]),h501)))
else none)))))))))
else none)
else none)
theorem r209 {base : Nat} {v0 : Option Addr} {v0n : Nat} {v1_0 : Int} {v1_1 : Int} {v1_2 : Option Addr} {v1_2n : Nat} {v1_3 : Option Addr} {v1_3n : Nat} {v1_4 : Option Addr} {v1_4n : Nat} {v2 : Int} {h : AH} {r : Value × AH} (hx : qf209 base v0 v0n v1_0 v1_1 v1_2 v1_2n v1_3 v1_3n v1_4 v1_4n v2 h = some r) : run (Et base) 209 [(vL v0 v0n),(.agg #[(vI v1_0),(vI v1_1),(vL v1_2 v1_2n),(vL v1_3 v1_3n),(vL v1_4 v1_4n)]),(vI v2)] h = some r:=run_i (an:=a209) Try.func209 (by kernel_rfl) (.trans (by kernel_rfl) hx)
noncomputable abbrev qf210 (base : Nat) (v0 : Option Addr) (v1 : Int) (v2_0 : Int) (v2_1 : Int) (v2_2 : Int) (v2_3 : Int) (v2_4 : Int) (v2_5 : ByteArray) (v2_6 : Option Addr) (v2_6n : Nat) (h : AH) : Option (Value × AH):=
nw1 h 224 [(vI v2_0),(vI v2_1),(vI v2_2),(vI v2_3),(vI v2_4),(vT v2_5),(vL v2_6 v2_6n)] fun h1=>
((cell h1 (List.length h) 0).bind (getI .i64)).bind fun n2=>
(if (n2 == (2 : Int)) = true then
some ((.bool false),h1)
else
(if (n2 == (3 : Int)) = true then
((cell h1 (List.length h) 1).bind (getI .i64)).bind fun n3=>
c_IITL h1 (List.length h) 3 fun n4 n5 s6 l7=>
(run (Et base) 59 [(.pointer v0),(vI n3),(.agg #[(vI n4),(vI n5),(vT s6),(vL l7.1 l7.2)])] h1).bind fun r8=>
((some r8.1).bind getB).bind fun b9=>
some ((.bool true),r8.2)
else
(if (n2 == (4 : Int)) = true then
((v0).bind fun a11=>
((cell h1 a11.block (a11.off + 1)).bind getS).bind fun l12=>
(if (decide (((l12.2 : Nat) : Int) ≥ (20 : Int))) = true then
some (.inl ([some (.pointer v0),some (vI v1),some (vP (List.length h)),some (.bool true)],h1))
else
(v0).bind fun a13=>
((cell h1 a13.block (a13.off + 2)).bind (getI .i64)).bind fun n14=>
some (.inl ([some (.pointer v0),some (vI v1),some (vP (List.length h)),some (.bool (decide (n14 ≥ (90000 : Int))))],h1)))).bind fun j10=>joinK j10 fun j10=>
j_PIAB j10.1 fun p15 n16 d17 b18=>
(if b18 = true then
(run (Et base) 208 [(vT (⟨#[102,117,108,108]⟩ : ByteArray))] j10.2).bind fun r19=>
gG (some r19.1) 4 fun l20=>
l_IITL l20 fun n21 n22 s23 l24=>
(run (Et base) 175 [(.pointer p15),(vI n16),(.agg #[(vI n21),(vI n22),(vT s23),(vL l24.1 l24.2)])] r19.2).bind fun r25=>
(getTup 0 r25.1).bind fun _=>
some ((.bool false),r25.2)
else
(p15).bind fun a26=>
((cell j10.2 a26.block (a26.off + 1)).bind getS).bind fun l27=>
((cell j10.2 d17.block (d17.off + 1)).bind (getI .i64)).bind fun n28=>
((cell j10.2 d17.block (d17.off + 2)).bind (getI .i64)).bind fun n29=>
c_IITL j10.2 d17.block (d17.off + 3) fun n30 n31 s32 l33=>
(run (Et base) 167 [(vI n28),(vI n29),(.agg #[(vI n30),(vI n31),(vT s32),(vL l33.1 l33.2)])] j10.2).bind fun r34=>
gG (some r34.1) 5 fun l35=>
l_IILLL l35 fun n36 n37 l38 l39 l40=>
(gate (sameA j10.2 r34.2 (some ⟨a26.block,(a26.off + 1),none⟩) 1)
((gate (neA (some ⟨a26.block,(a26.off + 1),none⟩) (List.length r34.2))
(nw1 r34.2 54 [(vI n36),(vI n37),(vL l38.1 l38.2),(vL l39.1 l39.2),(vL l40.1 l40.2)] fun h41=>
(app base h41 54 5 88 l27.1 l27.2 (rawAt h41 (some ⟨(List.length r34.2),0,none⟩) (1 * 5)) 1).bind fun p42=>
((some p42.1).bind getS).bind fun l43=>
(p15).bind fun a44=>
(wr base p42.2 a44.block (a44.off + 1) [(vL l43.1 l43.2)]).bind fun h45=>
(p15).bind fun a46=>
((cell h45 a46.block (a46.off + 2)).bind (getI .i64)).bind fun n47=>
(p15).bind fun a48=>
(wr base h45 a48.block (a48.off + 2) [(vI (IntKind.wrap .i64 (n47 + (1 : Int))))]).bind fun h49=>
(p15).bind fun a50=>
((cell h49 a50.block (a50.off + 3)).bind getS).bind fun l51=>
((cell h49 d17.block (d17.off + 1)).bind (getI .i64)).bind fun n52=>
c_IITL h49 d17.block (d17.off + 3) fun n53 n54 s55 l56=>
(run (Et base) 168 [(vL l51.1 l51.2),(vI (1 : Int)),(vI n52),(.agg #[(vI n53),(vI n54),(vT s55),(vL l56.1 l56.2)])] h49).bind fun r57=>
((some r57.1).bind getS).bind fun l58=>
(p15).bind fun a59=>
(wr base r57.2 a59.block (a59.off + 3) [(vL l58.1 l58.2)]).bind fun h60=>
some ((.bool true),h60))))))
else
(if (n2 == (5 : Int)) = true then
(v0).bind fun a61=>
((cell h1 a61.block (a61.off + 3)).bind getS).bind fun l62=>
c_IITL h1 (List.length h) 3 fun n63 n64 s65 l66=>
(run (Et base) 168 [(vL l62.1 l62.2),(vI (2 : Int)),(vI v1),(.agg #[(vI n63),(vI n64),(vT s65),(vL l66.1 l66.2)])] h1).bind fun r67=>
((some r67.1).bind getS).bind fun l68=>
(v0).bind fun a69=>
(wr base r67.2 a69.block (a69.off + 3) [(vL l68.1 l68.2)]).bind fun h70=>
some ((.bool true),h70)
else
(if (n2 == (6 : Int)) = true then
((cell h1 (List.length h) 1).bind (getI .i64)).bind fun n71=>
(run (Et base) 228 [(.pointer v0),(vI v1),(vI n71)] h1).bind fun r72=>
(getTup 0 r72.1).bind fun _=>
some ((.bool true),r72.2)
else
(if (n2 == (7 : Int)) = true then
c_IITL h1 (List.length h) 3 fun n73 n74 s75 l76=>
(run (Et base) 175 [(.pointer v0),(vI v1),(.agg #[(vI n73),(vI n74),(vT s75),(vL l76.1 l76.2)])] h1).bind fun r77=>
(getTup 0 r77.1).bind fun _=>
some ((.bool false),r77.2)
else
some ((.bool true),h1)))))))
theorem r210 {base : Nat} {v0 : Option Addr} {v1 : Int} {v2_0 : Int} {v2_1 : Int} {v2_2 : Int} {v2_3 : Int} {v2_4 : Int} {v2_5 : ByteArray} {v2_6 : Option Addr} {v2_6n : Nat} {h : AH} {r : Value × AH} (hx : qf210 base v0 v1 v2_0 v2_1 v2_2 v2_3 v2_4 v2_5 v2_6 v2_6n h = some r) : run (Et base) 210 [(.pointer v0),(vI v1),(.agg #[(vI v2_0),(vI v2_1),(vI v2_2),(vI v2_3),(vI v2_4),(vT v2_5),(vL v2_6 v2_6n)])] h = some r:=run_i (an:=a210) Try.func210 (by kernel_rfl) (.trans (by kernel_rfl) hx)
noncomputable abbrev qf211 (base : Nat) (v0 : Int) (h : AH) : Option (Value × AH):=
(if (v0 == (1 : Int)) = true then
some ((vT (⟨#[65,78]⟩ : ByteArray)),h)
else
(if (v0 == (2 : Int)) = true then
some ((vT (⟨#[65,83]⟩ : ByteArray)),h)
else
((if (v0 == (3 : Int)) = true then
some (.inl ([some (vI v0),some (.bool (v0 == (3 : Int)))],h))
else
(if (v0 == (7 : Int)) = true then
some (.inl ([some (vI v0),some (.bool (v0 == (7 : Int)))],h))
else
(if (v0 == (8 : Int)) = true then
some (.inl ([some (vI v0),some (.bool (v0 == (8 : Int)))],h))
else
some (.inl ([some (vI v0),some (.bool (v0 == (13 : Int)))],h)))))).bind fun j1=>joinK j1 fun j1=>
j_IB j1.1 fun n2 b3=>
(if b3 = true then
some ((vT (⟨#[65,66]⟩ : ByteArray)),j1.2)
else
((if (n2 == (4 : Int)) = true then
some (.inl ([some (vI n2),some (.bool (n2 == (4 : Int)))],j1.2))
else
(if (n2 == (6 : Int)) = true then
some (.inl ([some (vI n2),some (.bool (n2 == (6 : Int)))],j1.2))
else
(if (n2 == (10 : Int)) = true then
some (.inl ([some (vI n2),some (.bool (n2 == (10 : Int)))],j1.2))
else
(if (n2 == (11 : Int)) = true then
some (.inl ([some (vI n2),some (.bool (n2 == (11 : Int)))],j1.2))
else
some (.inl ([some (vI n2),some (.bool (n2 == (16 : Int)))],j1.2))))))).bind fun j4=>joinK j4 fun j4=>
j_IB j4.1 fun n5 b6=>
(if b6 = true then
some ((vT (⟨#[65,66,78]⟩ : ByteArray)),j4.2)
else
((if (n5 == (5 : Int)) = true then
some (.inl ([some (vI n5),some (.bool (n5 == (5 : Int)))],j4.2))
else
some (.inl ([some (vI n5),some (.bool (n5 == (9 : Int)))],j4.2)))).bind fun j7=>joinK j7 fun j7=>
j_IB j7.1 fun n8 b9=>
(if b9 = true then
some ((vT (⟨#[65,66,67]⟩ : ByteArray)),j7.2)
else
(if (n8 == (12 : Int)) = true then
some ((vT (⟨#[78]⟩ : ByteArray)),j7.2)
else
((if (n8 == (14 : Int)) = true then
some (.inl ([some (.bool (n8 == (14 : Int)))],j7.2))
else
(if (n8 == (15 : Int)) = true then
some (.inl ([some (.bool (n8 == (15 : Int)))],j7.2))
else
(if (n8 == (17 : Int)) = true then
some (.inl ([some (.bool (n8 == (17 : Int)))],j7.2))
else
(if (n8 == (18 : Int)) = true then
some (.inl ([some (.bool (n8 == (18 : Int)))],j7.2))
else
(if (n8 == (19 : Int)) = true then
some (.inl ([some (.bool (n8 == (19 : Int)))],j7.2))
else
some (.inl ([some (.bool (n8 == (20 : Int)))],j7.2)))))))).bind fun j10=>joinK j10 fun j10=>
((sget j10.1 0).bind getB).bind fun b11=>
(if b11 = true then
some ((vT (⟨#[65]⟩ : ByteArray)),j10.2)
else
some ((vT (⟨#[]⟩ : ByteArray)),j10.2))))))))
theorem r211 {base : Nat} {v0 : Int} {h : AH} {r : Value × AH} (hx : qf211 base v0 h = some r) : run (Et base) 211 [(vI v0)] h = some r:=run_i (an:=a211) Try.func211 (by kernel_rfl) (.trans (by kernel_rfl) hx)
theorem r212 {base : Nat} {v0 : Int} {w0 : Addr} {h : AH} {r : Value × AH} (hx : (((cell h w0.block w0.off).bind getStr).bind fun s1=>
(run (Et base) 213 [(.string s1),(.int .u8 v0)] h).bind fun r2=>
((some r2.1).bind (getI .i64)).bind fun n3=>
some ((.bool (decide (n3 ≥ (0 : Int)))),r2.2)) = some r) : run (Et base) 212 [(.int .u8 v0),(vA w0)] h = some r:=run_i (an:=a212) Try.func212 (by kernel_rfl) (.trans (by kernel_rfl) hx)
theorem r213 {base : Nat} {v0 : ByteArray} {v1 : Int} {h : AH} {r : Value × AH} (hx : ((run (Et base) 229 [(.string v0),(.int .u8 v1)] h).bind fun r1=>
((some r1.1).bind (getI .i64)).bind fun n2=>
some ((.int .i64 n2),r1.2)) = some r) : run (Et base) 213 [(vT v0),(.int .u8 v1)] h = some r:=run_i (an:=a213) Try.func213 (by kernel_rfl) (.trans (by kernel_rfl) hx)
theorem r223 {base : Nat}  {h : AH} {r : Value × AH} (hx : ((some (h++[some ⟨[(.string (⟨#[105,110,116]⟩ : ByteArray)),(.string (⟨#[97,116,111,109]⟩ : ByteArray)),(.string (⟨#[109,111,118,101]⟩ : ByteArray)),(.string (⟨#[116,117,112,108,101]⟩ : ByteArray)),(.string (⟨#[99,111,110,115]⟩ : ByteArray)),(.string (⟨#[101,108,101,109]⟩ : ByteArray)),(.string (⟨#[104,101,97,100]⟩ : ByteArray)),(.string (⟨#[116,97,105,108]⟩ : ByteArray)),(.string (⟨#[97,100,100]⟩ : ByteArray)),(.string (⟨#[115,97,109,101]⟩ : ByteArray)),(.string (⟨#[107,105,110,100]⟩ : ByteArray)),(.string (⟨#[106,117,109,112]⟩ : ByteArray)),(.string (⟨#[115,101,110,100]⟩ : ByteArray)),(.string (⟨#[116,97,107,101]⟩ : ByteArray)),(.string (⟨#[115,101,108,102]⟩ : ByteArray)),(.string (⟨#[109,97,107,101]⟩ : ByteArray)),(.string (⟨#[115,97,121]⟩ : ByteArray)),(.string (⟨#[108,105,110,107]⟩ : ByteArray)),(.string (⟨#[101,110,100]⟩ : ByteArray)),(.string (⟨#[110,105,108]⟩ : ByteArray))],9⟩])).bind fun h1=>
some ((.slice (some ⟨(List.length h),0,none⟩) 20 20),h1)) = some r) : run (Et base) 223 [] h = some r:=run_i (an:=a223) Try.func223 (by kernel_rfl) (.trans (by kernel_rfl) hx)
theorem r224 {base : Nat} {v0 : Option Addr} {v1 : Int} {v2 : ByteArray} {h : AH} {r : Value × AH} (hx : ((if (v1 == (83 : Int)) = true then
(v0).bind fun a1=>
(wr base h a1.block (a1.off + 5) [(.string v2)]).bind fun h2=>
some ((.bool true),h2)
else
(run (Et base) 235 [(.string v2)] h).bind fun r3=>
(getTup 2 r3.1).bind fun l4=>
((l4[0]?).bind (getI .i64)).bind fun n5=>
((l4[1]?).bind getB).bind fun b6=>
((if (v1 == (65 : Int)) = true then
(v0).bind fun a8=>
(wr base r3.2 a8.block (a8.off + 1) [(.int .i64 n5)]).bind fun h9=>
some (.inl ([some (.bool b6)],h9))
else
(if (v1 == (66 : Int)) = true then
(v0).bind fun a10=>
(wr base r3.2 a10.block (a10.off + 2) [(.int .i64 n5)]).bind fun h11=>
some (.inl ([some (.bool b6)],h11))
else
(if (v1 == (67 : Int)) = true then
(v0).bind fun a12=>
(wr base r3.2 a12.block (a12.off + 3) [(.int .i64 n5)]).bind fun h13=>
some (.inl ([some (.bool b6)],h13))
else
(v0).bind fun a14=>
(wr base r3.2 a14.block (a14.off + 4) [(.int .i64 n5)]).bind fun h15=>
some (.inl ([some (.bool b6)],h15)))))).bind fun j7=>joinK j7 fun j7=>
((sget j7.1 0).bind getB).bind fun b16=>
some ((.bool b16),j7.2))) = some r) : run (Et base) 224 [(.pointer v0),(.int .u8 v1),(vT v2)] h = some r:=run_i (an:=a224) Try.func224 (by kernel_rfl) (.trans (by kernel_rfl) hx)
theorem r225 {base : Nat} {v0 : Int} {h : AH} {r : Value × AH} (hx : ((some (h++[some ⟨[(.int .i64 0),(.int .i64 0),(.string ⟨#[]⟩),(.slice none 0 0)],42⟩])).bind fun h1=>
(wr base h1 (List.length h) 0 [(.int .i64 (3 : Int)),(.int .i64 v0),(.string (⟨#[]⟩ : ByteArray)),(.slice none 0 0)]).bind fun h2=>
((cell h2 (List.length h) 0).bind (getI .i64)).bind fun n3=>
((cell h2 (List.length h) 1).bind (getI .i64)).bind fun n4=>
((cell h2 (List.length h) 2).bind getStr).bind fun s5=>
((cell h2 (List.length h) 3).bind getS).bind fun l6=>
some ((.agg #[(.int .i64 n3),(.int .i64 n4),(.string s5),(.slice l6.1 l6.2 l6.2)]),h2)) = some r) : run (Et base) 225 [(vI v0)] h = some r:=run_i (an:=a225) Try.func225 (by kernel_rfl) (.trans (by kernel_rfl) hx)
theorem r226 {base : Nat} {v0_0 : Int} {v0_1 : Int} {v0_2 : Option Addr} {v0_2n : Nat} {v0_3 : Option Addr} {v0_3n : Nat} {v0_4 : Option Addr} {v0_4n : Nat} {h : AH} {r : Value × AH} (hx : (nw1 h 54 [(vI v0_0),(vI v0_1),(vL v0_2 v0_2n),(vL v0_3 v0_3n),(vL v0_4 v0_4n)] fun h1=>
nw1 h1 54 [(vI 0),(vI 0),(vL none 0),(vL none 0),(vL none 0)] fun h2=>
nw1 h2 224 [(vI 0),(vI 0),(vI 0),(vI 0),(vI 0),(vT ⟨#[]⟩),(vL none 0)] fun h3=>
c_IILLL h3 (List.length h) 0 fun n4 n5 l6 l7 l8=>
(run (Et base) 208 [(vT (⟨#[102,97,117,108,116]⟩ : ByteArray))] h3).bind fun r9=>
gG (some r9.1) 4 fun l10=>
l_IITL l10 fun n11 n12 s13 l14=>
(gate (sameA h3 r9.2 (some ⟨(List.length h),0,none⟩) 5)
((wr base r9.2 (List.length h1) 0 [(vI n4),(vI n5),(vL l6.1 l6.2),(vL l7.1 l7.2),(vL l8.1 l8.2)]).bind fun h15=>
(wr base h15 (List.length h2) 0 [(vI (7 : Int)),(vI (0 : Int)),(vI (0 : Int)),(vI n11),(vI n12),(vT s13),(vL l14.1 l14.2)]).bind fun h16=>
c_IILLL h16 (List.length h1) 0 fun n17 n18 l19 l20 l21=>
c_IIIIITL h16 (List.length h2) 0 fun n22 n23 n24 n25 n26 s27 l28=>
some ((.tuple #[(.agg #[(vI n17),(vI n18),(vL l19.1 l19.2),(vL l20.1 l20.2),(vL l21.1 l21.2)]),(.agg #[(vI n22),(vI n23),(vI n24),(vI n25),(vI n26),(vT s27),(vL l28.1 l28.2)])]),h16)))) = some r) : run (Et base) 226 [(.agg #[(vI v0_0),(vI v0_1),(vL v0_2 v0_2n),(vL v0_3 v0_3n),(vL v0_4 v0_4n)])] h = some r:=run_i (an:=a226) Try.func226 (by kernel_rfl) (.trans (by kernel_rfl) hx)
noncomputable abbrev qf227 (base : Nat) (v0_0 : Int) (v0_1 : Int) (v0_2 : Int) (v0_3 : Int) (v0_4 : Int) (v0_5 : ByteArray) (v1_0 : Int) (v1_1 : Int) (v1_2 : Option Addr) (v1_2n : Nat) (v1_3 : Option Addr) (v1_3n : Nat) (v1_4 : Option Addr) (v1_4n : Nat) (v2 : Int) (h : AH) : Option (Value × AH):=
nw1 h 143 [(vI v0_0),(vI v0_1),(vI v0_2),(vI v0_3),(vI v0_4),(vT v0_5)] fun h1=>
nw1 h1 54 [(vI v1_0),(vI v1_1),(vL v1_2 v1_2n),(vL v1_3 v1_3n),(vL v1_4 v1_4n)] fun h2=>
nw1 h2 42 [(vI 0),(vI 0),(vT ⟨#[]⟩),(vL none 0)] fun h3=>
((cell h3 (List.length h) 0).bind (getI .i64)).bind fun n4=>
(if (n4 == (1 : Int)) = true then
((cell h3 (List.length h) 4).bind (getI .i64)).bind fun n5=>
(run (Et base) 201 [(vI n5)] h3).bind fun r6=>
gG (some r6.1) 4 fun l7=>
l_IITL l7 fun n8 n9 s10 l11=>
(wr base r6.2 (List.length h2) 0 [(vI n8),(vI n9),(vT s10),(vL l11.1 l11.2)]).bind fun h12=>
c_IITL h12 (List.length h2) 0 fun n13 n14 s15 l16=>
some ((.tuple #[(.agg #[(vI n13),(vI n14),(vT s15),(vL l16.1 l16.2)]),(.bool true)]),h12)
else
(if (n4 == (2 : Int)) = true then
((cell h3 (List.length h) 5).bind getStr).bind fun s17=>
(run (Et base) 208 [(vT s17)] h3).bind fun r18=>
gG (some r18.1) 4 fun l19=>
l_IITL l19 fun n20 n21 s22 l23=>
(wr base r18.2 (List.length h2) 0 [(vI n20),(vI n21),(vT s22),(vL l23.1 l23.2)]).bind fun h24=>
c_IITL h24 (List.length h2) 0 fun n25 n26 s27 l28=>
some ((.tuple #[(.agg #[(vI n25),(vI n26),(vT s27),(vL l28.1 l28.2)]),(.bool true)]),h24)
else
(if (n4 == (20 : Int)) = true then
(wr base h3 (List.length h2) 0 [(vI (5 : Int)),(vI (0 : Int)),(vT (⟨#[]⟩ : ByteArray)),(vL none 0)]).bind fun h29=>
c_IITL h29 (List.length h2) 0 fun n30 n31 s32 l33=>
some ((.tuple #[(.agg #[(vI n30),(vI n31),(vT s32),(vL l33.1 l33.2)]),(.bool true)]),h29)
else
(if (n4 == (3 : Int)) = true then
((cell h3 (List.length h1) 2).bind getS).bind fun l34=>
((cell h3 (List.length h) 2).bind (getI .i64)).bind fun n35=>
(if 0≤n35∧n35 < ((l34.2 : Nat) : Int) then
((l34.1 : Option Addr)).bind fun a36=>
c_IITL h3 a36.block (a36.off + Int.toNat n35 * 4) fun n37 n38 s39 l40=>
(run (Et base) 116 [(.agg #[(vI n37),(vI n38),(vT s39),(vL l40.1 l40.2)])] h3).bind fun r41=>
gG (some r41.1) 4 fun l42=>
l_IITL l42 fun n43 n44 s45 l46=>
(wr base r41.2 (List.length h2) 0 [(vI n43),(vI n44),(vT s45),(vL l46.1 l46.2)]).bind fun h47=>
c_IITL h47 (List.length h2) 0 fun n48 n49 s50 l51=>
some ((.tuple #[(.agg #[(vI n48),(vI n49),(vT s50),(vL l51.1 l51.2)]),(.bool true)]),h47)
else none)
else
(if (n4 == (4 : Int)) = true then
((cell h3 (List.length h1) 2).bind getS).bind fun l52=>
((cell h3 (List.length h) 2).bind (getI .i64)).bind fun n53=>
((cell h3 (List.length h) 2).bind (getI .i64)).bind fun n54=>
((cell h3 (List.length h) 4).bind (getI .i64)).bind fun n55=>
(if 0≤n53∧n53≤(IntKind.wrap .i64 (n54 + n55))∧(IntKind.wrap .i64 (n54 + n55))≤((l52.2 : Nat) : Int)∧okTy base h3 l52.1 42 (Int.toNat n53) = true then
(run (Et base) 163 [(.slice (shiftA l52.1 (Int.toNat n53 * 4)) (Int.toNat (IntKind.wrap .i64 (n54 + n55)) - Int.toNat n53) (Int.toNat (IntKind.wrap .i64 (n54 + n55)) - Int.toNat n53))] h3).bind fun r56=>
((some r56.1).bind getS).bind fun l57=>
(wr base r56.2 (List.length h2) 0 [(vI (4 : Int)),(vI (0 : Int)),(vT (⟨#[]⟩ : ByteArray)),(vL l57.1 l57.2)]).bind fun h58=>
c_IITL h58 (List.length h2) 0 fun n59 n60 s61 l62=>
some ((.tuple #[(.agg #[(vI n59),(vI n60),(vT s61),(vL l62.1 l62.2)]),(.bool true)]),h58)
else none)
else
(if (n4 == (5 : Int)) = true then
((cell h3 (List.length h1) 2).bind getS).bind fun l63=>
((cell h3 (List.length h) 2).bind (getI .i64)).bind fun n64=>
(if 0≤n64∧n64 < ((l63.2 : Nat) : Int) then
((l63.1 : Option Addr)).bind fun a65=>
c_IITL h3 a65.block (a65.off + Int.toNat n64 * 4) fun n66 n67 s68 l69=>
(run (Et base) 116 [(.agg #[(vI n66),(vI n67),(vT s68),(vL l69.1 l69.2)])] h3).bind fun r70=>
gG (some r70.1) 4 fun l71=>
l_IITL l71 fun n72 n73 s74 l75=>
(gate (sameA h3 r70.2 (some ⟨(List.length h1),2,none⟩) 1)
(((cell r70.2 (List.length h1) 2).bind getS).bind fun l76=>
(gate (sameA h3 r70.2 (some ⟨(List.length h),3,none⟩) 1)
(((cell r70.2 (List.length h) 3).bind (getI .i64)).bind fun n77=>
(if 0≤n77∧n77 < ((l76.2 : Nat) : Int) then
((l76.1 : Option Addr)).bind fun a78=>
(gate (sameA h3 r70.2 (some ⟨a78.block,((a78.off + Int.toNat n77 * 4) + 3),none⟩) 1)
(((cell r70.2 a78.block ((a78.off + Int.toNat n77 * 4) + 3)).bind getS).bind fun l79=>
(run (Et base) 163 [(vL l79.1 l79.2)] r70.2).bind fun r80=>
((some r80.1).bind getS).bind fun l81=>
(gate (neA (some ⟨a78.block,((a78.off + Int.toNat n77 * 4) + 3),none⟩) (List.length r80.2))
((gate (neA (some ⟨(List.length h),3,none⟩) (List.length r80.2))
((gate (neA (some ⟨(List.length h1),2,none⟩) (List.length r80.2))
(nw1 r80.2 42 [(vI n72),(vI n73),(vT s74),(vL l75.1 l75.2)] fun h82=>
(app base h82 42 4 56 (some ⟨(List.length r80.2),0,none⟩) 1 (rawAt h82 l81.1 (l81.2 * 4)) l81.2).bind fun p83=>
((some p83.1).bind getS).bind fun l84=>
((cell p83.2 (List.length h1) 2).bind getS).bind fun l85=>
((cell p83.2 (List.length h) 3).bind (getI .i64)).bind fun n86=>
(if 0≤n86∧n86 < ((l85.2 : Nat) : Int) then
((l85.1 : Option Addr)).bind fun a87=>
((cell p83.2 a87.block ((a87.off + Int.toNat n86 * 4) + 0)).bind (getI .i64)).bind fun n88=>
(wr base p83.2 (List.length h2) 0 [(vI (5 : Int)),(vI (0 : Int)),(vT (⟨#[]⟩ : ByteArray)),(vL l84.1 l84.2)]).bind fun h89=>
(gate (sameA p83.2 h89 (some ⟨a87.block,((a87.off + Int.toNat n86 * 4) + 0),none⟩) 1)
((gate (sameA p83.2 h89 (some ⟨(List.length h),3,none⟩) 1)
((gate (sameA p83.2 h89 (some ⟨(List.length h1),2,none⟩) 1)
(c_IITL h89 (List.length h2) 0 fun n90 n91 s92 l93=>
some ((.tuple #[(.agg #[(vI n90),(vI n91),(vT s92),(vL l93.1 l93.2)]),(.bool (n88 == (5 : Int)))]),h89)))))))
else none)))))))))
else none)))))
else none)
else
(if (n4 == (15 : Int)) = true then
((cell h3 (List.length h1) 0).bind (getI .i64)).bind fun n94=>
(run (Et base) 225 [(vI n94)] h3).bind fun r95=>
gG (some r95.1) 4 fun l96=>
l_IITL l96 fun n97 n98 s99 l100=>
(wr base r95.2 (List.length h2) 0 [(vI n97),(vI n98),(vT s99),(vL l100.1 l100.2)]).bind fun h101=>
c_IITL h101 (List.length h2) 0 fun n102 n103 s104 l105=>
some ((.tuple #[(.agg #[(vI n102),(vI n103),(vT s104),(vL l105.1 l105.2)]),(.bool true)]),h101)
else
(if (n4 == (16 : Int)) = true then
(run (Et base) 225 [(vI v2)] h3).bind fun r106=>
gG (some r106.1) 4 fun l107=>
l_IITL l107 fun n108 n109 s110 l111=>
(wr base r106.2 (List.length h2) 0 [(vI n108),(vI n109),(vT s110),(vL l111.1 l111.2)]).bind fun h112=>
c_IITL h112 (List.length h2) 0 fun n113 n114 s115 l116=>
some ((.tuple #[(.agg #[(vI n113),(vI n114),(vT s115),(vL l116.1 l116.2)]),(.bool true)]),h112)
else
c_IIIIIT h3 (List.length h) 0 fun n117 n118 n119 n120 n121 s122=>
c_IILLL h3 (List.length h1) 0 fun n123 n124 l125 l126 l127=>
(run (Et base) 236 [(.agg #[(vI n117),(vI n118),(vI n119),(vI n120),(vI n121),(vT s122)]),(.agg #[(vI n123),(vI n124),(vL l125.1 l125.2),(vL l126.1 l126.2),(vL l127.1 l127.2)])] h3).bind fun r128=>
(getTup 2 r128.1).bind fun l129=>
gG (l129[0]?) 4 fun l130=>
l_IITL l130 fun n131 n132 s133 l134=>
((l129[1]?).bind getB).bind fun b135=>
(wr base r128.2 (List.length h2) 0 [(vI n131),(vI n132),(vT s133),(vL l134.1 l134.2)]).bind fun h136=>
c_IITL h136 (List.length h2) 0 fun n137 n138 s139 l140=>
some ((.tuple #[(.agg #[(vI n137),(vI n138),(vT s139),(vL l140.1 l140.2)]),(.bool b135)]),h136)))))))))
theorem r227 {base : Nat} {v0_0 : Int} {v0_1 : Int} {v0_2 : Int} {v0_3 : Int} {v0_4 : Int} {v0_5 : ByteArray} {v1_0 : Int} {v1_1 : Int} {v1_2 : Option Addr} {v1_2n : Nat} {v1_3 : Option Addr} {v1_3n : Nat} {v1_4 : Option Addr} {v1_4n : Nat} {v2 : Int} {h : AH} {r : Value × AH} (hx : qf227 base v0_0 v0_1 v0_2 v0_3 v0_4 v0_5 v1_0 v1_1 v1_2 v1_2n v1_3 v1_3n v1_4 v1_4n v2 h = some r) : run (Et base) 227 [(.agg #[(vI v0_0),(vI v0_1),(vI v0_2),(vI v0_3),(vI v0_4),(vT v0_5)]),(.agg #[(vI v1_0),(vI v1_1),(vL v1_2 v1_2n),(vL v1_3 v1_3n),(vL v1_4 v1_4n)]),(vI v2)] h = some r:=run_i (an:=a227) Try.func227 (by kernel_rfl) (.trans (by kernel_rfl) hx)
noncomputable abbrev qf228 (base : Nat) (v0 : Option Addr) (v1 : Int) (v2 : Int) (h : AH) : Option (Value × AH):=
(v0).bind fun a1=>
c_LLIL h a1.block a1.off fun l2 l3 n4 l5=>
(run (Et base) 118 [(.agg #[(vL l2.1 l2.2),(vL l3.1 l3.2),(vI n4),(vL l5.1 l5.2)]),(vI v1)] h).bind fun r6=>
((some r6.1).bind (getI .i64)).bind fun n7=>
(v0).bind fun a8=>
c_LLIL r6.2 a8.block a8.off fun l9 l10 n11 l12=>
(run (Et base) 118 [(.agg #[(vL l9.1 l9.2),(vL l10.1 l10.2),(vI n11),(vL l12.1 l12.2)]),(vI v2)] r6.2).bind fun r13=>
((some r13.1).bind (getI .i64)).bind fun n14=>
((if (decide (n14 < (0 : Int))) = true then
some (.inl ([some (.pointer v0),some (vI v1),some (vI v2),some (vI n7),some (vI n14),some (.bool true)],r13.2))
else
(if (n14 == n7) = true then
some (.inl ([some (.pointer v0),some (vI v1),some (vI v2),some (vI n7),some (vI n14),some (.bool true)],r13.2))
else
(v0).bind fun a16=>
((cell r13.2 a16.block (a16.off + 1)).bind getS).bind fun l17=>
(if 0≤n7∧n7 < ((l17.2 : Nat) : Int) then
((l17.1 : Option Addr)).bind fun a18=>
((cell r13.2 a18.block ((a18.off + Int.toNat n7 * 5) + 4)).bind getS).bind fun l19=>
(if (decide (((l19.2 : Nat) : Int) ≥ (50 : Int))) = true then
some (.inl ([some (.pointer v0),some (vI v1),some (vI v2),some (vI n7),some (vI n14),some (.bool true)],r13.2))
else
(v0).bind fun a20=>
((cell r13.2 a20.block (a20.off + 1)).bind getS).bind fun l21=>
(if 0≤n14∧n14 < ((l21.2 : Nat) : Int) then
((l21.1 : Option Addr)).bind fun a22=>
((cell r13.2 a22.block ((a22.off + Int.toNat n14 * 5) + 4)).bind getS).bind fun l23=>
some (.inl ([some (.pointer v0),some (vI v1),some (vI v2),some (vI n7),some (vI n14),some (.bool (decide (((l23.2 : Nat) : Int) ≥ (50 : Int))))],r13.2))
else none))
else none)))).bind fun j15=>joinK j15 fun j15=>
j_PIIIIB j15.1 fun p24 n25 n26 n27 n28 b29=>
(if b29 = true then
some ((.tuple #[]),j15.2)
else
(p24).bind fun a30=>
((cell j15.2 a30.block (a30.off + 1)).bind getS).bind fun l31=>
(p24).bind fun a32=>
((cell j15.2 a32.block (a32.off + 1)).bind getS).bind fun l33=>
(if 0≤n27∧n27 < ((l33.2 : Nat) : Int) then
((l33.1 : Option Addr)).bind fun a34=>
((cell j15.2 a34.block ((a34.off + Int.toNat n27 * 5) + 4)).bind getS).bind fun l35=>
(run (Et base) 237 [(vL l35.1 l35.2),(vI n26)] j15.2).bind fun r36=>
((some r36.1).bind getS).bind fun l37=>
(gate (sameA j15.2 r36.2 (some ⟨a30.block,(a30.off + 1),none⟩) 1)
((if 0≤n27∧n27 < ((l31.2 : Nat) : Int) then
((l31.1 : Option Addr)).bind fun a38=>
(wr base r36.2 a38.block ((a38.off + Int.toNat n27 * 5) + 4) [(vL l37.1 l37.2)]).bind fun h39=>
(p24).bind fun a40=>
((cell h39 a40.block (a40.off + 1)).bind getS).bind fun l41=>
(p24).bind fun a42=>
((cell h39 a42.block (a42.off + 1)).bind getS).bind fun l43=>
(if 0≤n28∧n28 < ((l43.2 : Nat) : Int) then
((l43.1 : Option Addr)).bind fun a44=>
((cell h39 a44.block ((a44.off + Int.toNat n28 * 5) + 4)).bind getS).bind fun l45=>
(run (Et base) 237 [(vL l45.1 l45.2),(vI n25)] h39).bind fun r46=>
((some r46.1).bind getS).bind fun l47=>
(gate (sameA h39 r46.2 (some ⟨a40.block,(a40.off + 1),none⟩) 1)
((if 0≤n28∧n28 < ((l41.2 : Nat) : Int) then
((l41.1 : Option Addr)).bind fun a48=>
(wr base r46.2 a48.block ((a48.off + Int.toNat n28 * 5) + 4) [(vL l47.1 l47.2)]).bind fun h49=>
some ((.tuple #[]),h49)
else none)))
else none)
else none)))
else none))
theorem r228 {base : Nat} {v0 : Option Addr} {v1 : Int} {v2 : Int} {h : AH} {r : Value × AH} (hx : qf228 base v0 v1 v2 h = some r) : run (Et base) 228 [(.pointer v0),(vI v1),(vI v2)] h = some r:=run_i (an:=a228) Try.func228 (by kernel_rfl) (.trans (by kernel_rfl) hx)
theorem r229 {base : Nat} {v0 : ByteArray} {v1 : Int} {h : AH} {r : Value × AH} (hx : (some ((.int .i64 (firstIdx v0 (Nat.toUInt8 (Int.toNat v1)))),h)) = some r) : run (Et base) 229 [(vT v0),(.int .u8 v1)] h = some r:=run_i (an:=a229) Try.func229 (by kernel_rfl) (.trans (by kernel_rfl) hx)
theorem r235 {base : Nat} {v0 : ByteArray} {h : AH} {r : Value × AH} (hx : (((if (decide ((v0.size : Int) > (1 : Int))) = true then
(if 0≤(0 : Int)∧(0 : Int) < (v0.size : Int) then
some (.inl ([some (.string v0),some (.bool (((v0.data.toList.getD (Int.toNat (0 : Int)) 0).toNat : Int) == (45 : Int)))],h))
else none)
else
some (.inl ([some (.string v0),some (.bool false)],h)))).bind fun j1=>joinK j1 fun j1=>
((sget j1.1 0).bind getStr).bind fun s2=>
((sget (j1.1.tail) 0).bind getB).bind fun b3=>
(if b3 = true then
(if 0≤(1 : Int)∧(1 : Int)≤(s2.size : Int)∧(s2.size : Int)≤(s2.size : Int) then
(run (Et base) 239 [(.string (s2.extract (Int.toNat (1 : Int)) (Int.toNat (s2.size : Int))))] j1.2).bind fun r4=>
((some r4.1).bind (getI .i64)).bind fun n5=>
some ((.tuple #[(.int .i64 (IntKind.wrap .i64 (0 - n5))),(.bool (decide (n5 > (0 : Int))))]),r4.2)
else none)
else
(run (Et base) 239 [(.string s2)] j1.2).bind fun r6=>
((some r6.1).bind (getI .i64)).bind fun n7=>
some ((.tuple #[(.int .i64 n7),(.bool (decide (n7 ≥ (0 : Int))))]),r6.2))) = some r) : run (Et base) 235 [(vT v0)] h = some r:=run_i (an:=a235) Try.func235 (by kernel_rfl) (.trans (by kernel_rfl) hx)
end Go.Proofs.Ytkdenmdijdmnjaa.Am
