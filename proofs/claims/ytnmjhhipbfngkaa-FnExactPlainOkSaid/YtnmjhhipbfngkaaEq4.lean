/- What each of these functions comes to on the abstract machine, one equation a function and one a loop.
Conditions: none. -/
import Derived.Test.YtnmjhhipbfngkaaTb
set_option linter.unusedVariables false
set_option maxRecDepth 100000
namespace Go.Proofs.Ytnmjhhipbfngkaa.Am
open Go Go.RowKit
/-! impl.onlyNamed (gates 0) -/
theorem f145_eq (base : Nat) (v0_0 : Int) (v0_1 : Int) (v0_2 : Int) (v0_3 : Int) (v0_4 : Int) (v0_5 : ByteArray) (h : AH) : exFun (Et base) (run (Et base)) loopL a145 Try.f145 [(.agg #[(.int .i64 v0_0), (.int .i64 v0_1), (.int .i64 v0_2), (.int .i64 v0_3), (.int .i64 v0_4), (.string v0_5)])] h =
((some (h ++ [some ⟨[(.int .i64 v0_0), (.int .i64 v0_1), (.int .i64 v0_2), (.int .i64 v0_3), (.int .i64 v0_4), (.string v0_5)], 116⟩])).bind fun h1 =>
((cell h1 (List.length h) 0).bind (getI .i64)).bind fun n2 =>
(run (Et base) 158 [(.int .i64 n2)] h1).bind fun r3 =>
((some r3.1).bind getStr).bind fun s4 =>
(some (r3.2 ++ [some ⟨[(.string ⟨#[]⟩)], 9⟩])).bind fun h5 =>
(wr base h5 (List.length r3.2) 0 [(.string s4)]).bind fun h6 =>
((cell h6 (List.length r3.2) 0).bind getStr).bind fun s7 =>
(if (!(s7.toList == (⟨#[]⟩ : ByteArray).toList)) = true then
((run (Et base) 159 [(.int .u8 (65 : Int)), (.pointer (some ⟨(List.length r3.2), 0, none⟩))] h6).bind fun r9 =>
((some r9.1).bind getB).bind fun b10 =>
some ((.bool b10), r9.2)).bind fun r8 =>
((some r8.1).bind getB).bind fun b11 =>
(if b11 = true then
((run (Et base) 159 [(.int .u8 (66 : Int)), (.pointer (some ⟨(List.length r3.2), 0, none⟩))] r8.2).bind fun r13 =>
((some r13.1).bind getB).bind fun b14 =>
some ((.bool b14), r13.2)).bind fun r12 =>
((some r12.1).bind getB).bind fun b15 =>
(if b15 = true then
((run (Et base) 159 [(.int .u8 (67 : Int)), (.pointer (some ⟨(List.length r3.2), 0, none⟩))] r12.2).bind fun r17 =>
((some r17.1).bind getB).bind fun b18 =>
some ((.bool b18), r17.2)).bind fun r16 =>
((some r16.1).bind getB).bind fun b19 =>
(if b19 = true then
((run (Et base) 159 [(.int .u8 (78 : Int)), (.pointer (some ⟨(List.length r3.2), 0, none⟩))] r16.2).bind fun r21 =>
((some r21.1).bind getB).bind fun b22 =>
some ((.bool b22), r21.2)).bind fun r20 =>
((some r20.1).bind getB).bind fun b23 =>
(if b23 = true then
((run (Et base) 159 [(.int .u8 (83 : Int)), (.pointer (some ⟨(List.length r3.2), 0, none⟩))] r20.2).bind fun r25 =>
((some r25.1).bind getB).bind fun b26 =>
some ((.bool b26), r25.2)).bind fun r24 =>
((some r24.1).bind getB).bind fun b27 =>
(if b27 = true then
some ((.bool true), r24.2)
else
((cell r24.2 (List.length h) 5).bind getStr).bind fun s28 =>
some ((.bool (s28.toList == (⟨#[]⟩ : ByteArray).toList)), r24.2))
else
((cell r20.2 (List.length h) 4).bind (getI .i64)).bind fun n29 =>
(if (n29 == (0 : Int)) = true then
((run (Et base) 159 [(.int .u8 (83 : Int)), (.pointer (some ⟨(List.length r3.2), 0, none⟩))] r20.2).bind fun r31 =>
((some r31.1).bind getB).bind fun b32 =>
some ((.bool b32), r31.2)).bind fun r30 =>
((some r30.1).bind getB).bind fun b33 =>
(if b33 = true then
some ((.bool true), r30.2)
else
((cell r30.2 (List.length h) 5).bind getStr).bind fun s34 =>
some ((.bool (s34.toList == (⟨#[]⟩ : ByteArray).toList)), r30.2))
else
some ((.bool false), r20.2)))
else
((cell r16.2 (List.length h) 3).bind (getI .i64)).bind fun n35 =>
(if (n35 == (0 : Int)) = true then
((run (Et base) 159 [(.int .u8 (78 : Int)), (.pointer (some ⟨(List.length r3.2), 0, none⟩))] r16.2).bind fun r37 =>
((some r37.1).bind getB).bind fun b38 =>
some ((.bool b38), r37.2)).bind fun r36 =>
((some r36.1).bind getB).bind fun b39 =>
(if b39 = true then
((run (Et base) 159 [(.int .u8 (83 : Int)), (.pointer (some ⟨(List.length r3.2), 0, none⟩))] r36.2).bind fun r41 =>
((some r41.1).bind getB).bind fun b42 =>
some ((.bool b42), r41.2)).bind fun r40 =>
((some r40.1).bind getB).bind fun b43 =>
(if b43 = true then
some ((.bool true), r40.2)
else
((cell r40.2 (List.length h) 5).bind getStr).bind fun s44 =>
some ((.bool (s44.toList == (⟨#[]⟩ : ByteArray).toList)), r40.2))
else
((cell r36.2 (List.length h) 4).bind (getI .i64)).bind fun n45 =>
(if (n45 == (0 : Int)) = true then
((run (Et base) 159 [(.int .u8 (83 : Int)), (.pointer (some ⟨(List.length r3.2), 0, none⟩))] r36.2).bind fun r47 =>
((some r47.1).bind getB).bind fun b48 =>
some ((.bool b48), r47.2)).bind fun r46 =>
((some r46.1).bind getB).bind fun b49 =>
(if b49 = true then
some ((.bool true), r46.2)
else
((cell r46.2 (List.length h) 5).bind getStr).bind fun s50 =>
some ((.bool (s50.toList == (⟨#[]⟩ : ByteArray).toList)), r46.2))
else
some ((.bool false), r36.2)))
else
some ((.bool false), r16.2)))
else
((cell r12.2 (List.length h) 2).bind (getI .i64)).bind fun n51 =>
(if (n51 == (0 : Int)) = true then
((run (Et base) 159 [(.int .u8 (67 : Int)), (.pointer (some ⟨(List.length r3.2), 0, none⟩))] r12.2).bind fun r53 =>
((some r53.1).bind getB).bind fun b54 =>
some ((.bool b54), r53.2)).bind fun r52 =>
((some r52.1).bind getB).bind fun b55 =>
(if b55 = true then
((run (Et base) 159 [(.int .u8 (78 : Int)), (.pointer (some ⟨(List.length r3.2), 0, none⟩))] r52.2).bind fun r57 =>
((some r57.1).bind getB).bind fun b58 =>
some ((.bool b58), r57.2)).bind fun r56 =>
((some r56.1).bind getB).bind fun b59 =>
(if b59 = true then
((run (Et base) 159 [(.int .u8 (83 : Int)), (.pointer (some ⟨(List.length r3.2), 0, none⟩))] r56.2).bind fun r61 =>
((some r61.1).bind getB).bind fun b62 =>
some ((.bool b62), r61.2)).bind fun r60 =>
((some r60.1).bind getB).bind fun b63 =>
(if b63 = true then
some ((.bool true), r60.2)
else
((cell r60.2 (List.length h) 5).bind getStr).bind fun s64 =>
some ((.bool (s64.toList == (⟨#[]⟩ : ByteArray).toList)), r60.2))
else
((cell r56.2 (List.length h) 4).bind (getI .i64)).bind fun n65 =>
(if (n65 == (0 : Int)) = true then
((run (Et base) 159 [(.int .u8 (83 : Int)), (.pointer (some ⟨(List.length r3.2), 0, none⟩))] r56.2).bind fun r67 =>
((some r67.1).bind getB).bind fun b68 =>
some ((.bool b68), r67.2)).bind fun r66 =>
((some r66.1).bind getB).bind fun b69 =>
(if b69 = true then
some ((.bool true), r66.2)
else
((cell r66.2 (List.length h) 5).bind getStr).bind fun s70 =>
some ((.bool (s70.toList == (⟨#[]⟩ : ByteArray).toList)), r66.2))
else
some ((.bool false), r56.2)))
else
((cell r52.2 (List.length h) 3).bind (getI .i64)).bind fun n71 =>
(if (n71 == (0 : Int)) = true then
((run (Et base) 159 [(.int .u8 (78 : Int)), (.pointer (some ⟨(List.length r3.2), 0, none⟩))] r52.2).bind fun r73 =>
((some r73.1).bind getB).bind fun b74 =>
some ((.bool b74), r73.2)).bind fun r72 =>
((some r72.1).bind getB).bind fun b75 =>
(if b75 = true then
((run (Et base) 159 [(.int .u8 (83 : Int)), (.pointer (some ⟨(List.length r3.2), 0, none⟩))] r72.2).bind fun r77 =>
((some r77.1).bind getB).bind fun b78 =>
some ((.bool b78), r77.2)).bind fun r76 =>
((some r76.1).bind getB).bind fun b79 =>
(if b79 = true then
some ((.bool true), r76.2)
else
((cell r76.2 (List.length h) 5).bind getStr).bind fun s80 =>
some ((.bool (s80.toList == (⟨#[]⟩ : ByteArray).toList)), r76.2))
else
((cell r72.2 (List.length h) 4).bind (getI .i64)).bind fun n81 =>
(if (n81 == (0 : Int)) = true then
((run (Et base) 159 [(.int .u8 (83 : Int)), (.pointer (some ⟨(List.length r3.2), 0, none⟩))] r72.2).bind fun r83 =>
((some r83.1).bind getB).bind fun b84 =>
some ((.bool b84), r83.2)).bind fun r82 =>
((some r82.1).bind getB).bind fun b85 =>
(if b85 = true then
some ((.bool true), r82.2)
else
((cell r82.2 (List.length h) 5).bind getStr).bind fun s86 =>
some ((.bool (s86.toList == (⟨#[]⟩ : ByteArray).toList)), r82.2))
else
some ((.bool false), r72.2)))
else
some ((.bool false), r52.2)))
else
some ((.bool false), r12.2)))
else
((cell r8.2 (List.length h) 1).bind (getI .i64)).bind fun n87 =>
(if (n87 == (0 : Int)) = true then
((run (Et base) 159 [(.int .u8 (66 : Int)), (.pointer (some ⟨(List.length r3.2), 0, none⟩))] r8.2).bind fun r89 =>
((some r89.1).bind getB).bind fun b90 =>
some ((.bool b90), r89.2)).bind fun r88 =>
((some r88.1).bind getB).bind fun b91 =>
(if b91 = true then
((run (Et base) 159 [(.int .u8 (67 : Int)), (.pointer (some ⟨(List.length r3.2), 0, none⟩))] r88.2).bind fun r93 =>
((some r93.1).bind getB).bind fun b94 =>
some ((.bool b94), r93.2)).bind fun r92 =>
((some r92.1).bind getB).bind fun b95 =>
(if b95 = true then
((run (Et base) 159 [(.int .u8 (78 : Int)), (.pointer (some ⟨(List.length r3.2), 0, none⟩))] r92.2).bind fun r97 =>
((some r97.1).bind getB).bind fun b98 =>
some ((.bool b98), r97.2)).bind fun r96 =>
((some r96.1).bind getB).bind fun b99 =>
(if b99 = true then
((run (Et base) 159 [(.int .u8 (83 : Int)), (.pointer (some ⟨(List.length r3.2), 0, none⟩))] r96.2).bind fun r101 =>
((some r101.1).bind getB).bind fun b102 =>
some ((.bool b102), r101.2)).bind fun r100 =>
((some r100.1).bind getB).bind fun b103 =>
(if b103 = true then
some ((.bool true), r100.2)
else
((cell r100.2 (List.length h) 5).bind getStr).bind fun s104 =>
some ((.bool (s104.toList == (⟨#[]⟩ : ByteArray).toList)), r100.2))
else
((cell r96.2 (List.length h) 4).bind (getI .i64)).bind fun n105 =>
(if (n105 == (0 : Int)) = true then
((run (Et base) 159 [(.int .u8 (83 : Int)), (.pointer (some ⟨(List.length r3.2), 0, none⟩))] r96.2).bind fun r107 =>
((some r107.1).bind getB).bind fun b108 =>
some ((.bool b108), r107.2)).bind fun r106 =>
((some r106.1).bind getB).bind fun b109 =>
(if b109 = true then
some ((.bool true), r106.2)
else
((cell r106.2 (List.length h) 5).bind getStr).bind fun s110 =>
some ((.bool (s110.toList == (⟨#[]⟩ : ByteArray).toList)), r106.2))
else
some ((.bool false), r96.2)))
else
((cell r92.2 (List.length h) 3).bind (getI .i64)).bind fun n111 =>
(if (n111 == (0 : Int)) = true then
((run (Et base) 159 [(.int .u8 (78 : Int)), (.pointer (some ⟨(List.length r3.2), 0, none⟩))] r92.2).bind fun r113 =>
((some r113.1).bind getB).bind fun b114 =>
some ((.bool b114), r113.2)).bind fun r112 =>
((some r112.1).bind getB).bind fun b115 =>
(if b115 = true then
((run (Et base) 159 [(.int .u8 (83 : Int)), (.pointer (some ⟨(List.length r3.2), 0, none⟩))] r112.2).bind fun r117 =>
((some r117.1).bind getB).bind fun b118 =>
some ((.bool b118), r117.2)).bind fun r116 =>
((some r116.1).bind getB).bind fun b119 =>
(if b119 = true then
some ((.bool true), r116.2)
else
((cell r116.2 (List.length h) 5).bind getStr).bind fun s120 =>
some ((.bool (s120.toList == (⟨#[]⟩ : ByteArray).toList)), r116.2))
else
((cell r112.2 (List.length h) 4).bind (getI .i64)).bind fun n121 =>
(if (n121 == (0 : Int)) = true then
((run (Et base) 159 [(.int .u8 (83 : Int)), (.pointer (some ⟨(List.length r3.2), 0, none⟩))] r112.2).bind fun r123 =>
((some r123.1).bind getB).bind fun b124 =>
some ((.bool b124), r123.2)).bind fun r122 =>
((some r122.1).bind getB).bind fun b125 =>
(if b125 = true then
some ((.bool true), r122.2)
else
((cell r122.2 (List.length h) 5).bind getStr).bind fun s126 =>
some ((.bool (s126.toList == (⟨#[]⟩ : ByteArray).toList)), r122.2))
else
some ((.bool false), r112.2)))
else
some ((.bool false), r92.2)))
else
((cell r88.2 (List.length h) 2).bind (getI .i64)).bind fun n127 =>
(if (n127 == (0 : Int)) = true then
((run (Et base) 159 [(.int .u8 (67 : Int)), (.pointer (some ⟨(List.length r3.2), 0, none⟩))] r88.2).bind fun r129 =>
((some r129.1).bind getB).bind fun b130 =>
some ((.bool b130), r129.2)).bind fun r128 =>
((some r128.1).bind getB).bind fun b131 =>
(if b131 = true then
((run (Et base) 159 [(.int .u8 (78 : Int)), (.pointer (some ⟨(List.length r3.2), 0, none⟩))] r128.2).bind fun r133 =>
((some r133.1).bind getB).bind fun b134 =>
some ((.bool b134), r133.2)).bind fun r132 =>
((some r132.1).bind getB).bind fun b135 =>
(if b135 = true then
((run (Et base) 159 [(.int .u8 (83 : Int)), (.pointer (some ⟨(List.length r3.2), 0, none⟩))] r132.2).bind fun r137 =>
((some r137.1).bind getB).bind fun b138 =>
some ((.bool b138), r137.2)).bind fun r136 =>
((some r136.1).bind getB).bind fun b139 =>
(if b139 = true then
some ((.bool true), r136.2)
else
((cell r136.2 (List.length h) 5).bind getStr).bind fun s140 =>
some ((.bool (s140.toList == (⟨#[]⟩ : ByteArray).toList)), r136.2))
else
((cell r132.2 (List.length h) 4).bind (getI .i64)).bind fun n141 =>
(if (n141 == (0 : Int)) = true then
((run (Et base) 159 [(.int .u8 (83 : Int)), (.pointer (some ⟨(List.length r3.2), 0, none⟩))] r132.2).bind fun r143 =>
((some r143.1).bind getB).bind fun b144 =>
some ((.bool b144), r143.2)).bind fun r142 =>
((some r142.1).bind getB).bind fun b145 =>
(if b145 = true then
some ((.bool true), r142.2)
else
((cell r142.2 (List.length h) 5).bind getStr).bind fun s146 =>
some ((.bool (s146.toList == (⟨#[]⟩ : ByteArray).toList)), r142.2))
else
some ((.bool false), r132.2)))
else
((cell r128.2 (List.length h) 3).bind (getI .i64)).bind fun n147 =>
(if (n147 == (0 : Int)) = true then
((run (Et base) 159 [(.int .u8 (78 : Int)), (.pointer (some ⟨(List.length r3.2), 0, none⟩))] r128.2).bind fun r149 =>
((some r149.1).bind getB).bind fun b150 =>
some ((.bool b150), r149.2)).bind fun r148 =>
((some r148.1).bind getB).bind fun b151 =>
(if b151 = true then
((run (Et base) 159 [(.int .u8 (83 : Int)), (.pointer (some ⟨(List.length r3.2), 0, none⟩))] r148.2).bind fun r153 =>
((some r153.1).bind getB).bind fun b154 =>
some ((.bool b154), r153.2)).bind fun r152 =>
((some r152.1).bind getB).bind fun b155 =>
(if b155 = true then
some ((.bool true), r152.2)
else
((cell r152.2 (List.length h) 5).bind getStr).bind fun s156 =>
some ((.bool (s156.toList == (⟨#[]⟩ : ByteArray).toList)), r152.2))
else
((cell r148.2 (List.length h) 4).bind (getI .i64)).bind fun n157 =>
(if (n157 == (0 : Int)) = true then
((run (Et base) 159 [(.int .u8 (83 : Int)), (.pointer (some ⟨(List.length r3.2), 0, none⟩))] r148.2).bind fun r159 =>
((some r159.1).bind getB).bind fun b160 =>
some ((.bool b160), r159.2)).bind fun r158 =>
((some r158.1).bind getB).bind fun b161 =>
(if b161 = true then
some ((.bool true), r158.2)
else
((cell r158.2 (List.length h) 5).bind getStr).bind fun s162 =>
some ((.bool (s162.toList == (⟨#[]⟩ : ByteArray).toList)), r158.2))
else
some ((.bool false), r148.2)))
else
some ((.bool false), r128.2)))
else
some ((.bool false), r88.2)))
else
some ((.bool false), r8.2)))
else
some ((.bool false), h6)) : Option (Value × AH)) := by kernel_rfl
theorem r145 {base : Nat} {v0_0 : Int} {v0_1 : Int} {v0_2 : Int} {v0_3 : Int} {v0_4 : Int} {v0_5 : ByteArray} {h : AH} {r : Value × AH} (hx :
((some (h ++ [some ⟨[(.int .i64 v0_0), (.int .i64 v0_1), (.int .i64 v0_2), (.int .i64 v0_3), (.int .i64 v0_4), (.string v0_5)], 116⟩])).bind fun h1 =>
((cell h1 (List.length h) 0).bind (getI .i64)).bind fun n2 =>
(run (Et base) 158 [(.int .i64 n2)] h1).bind fun r3 =>
((some r3.1).bind getStr).bind fun s4 =>
(some (r3.2 ++ [some ⟨[(.string ⟨#[]⟩)], 9⟩])).bind fun h5 =>
(wr base h5 (List.length r3.2) 0 [(.string s4)]).bind fun h6 =>
((cell h6 (List.length r3.2) 0).bind getStr).bind fun s7 =>
(if (!(s7.toList == (⟨#[]⟩ : ByteArray).toList)) = true then
((run (Et base) 159 [(.int .u8 (65 : Int)), (.pointer (some ⟨(List.length r3.2), 0, none⟩))] h6).bind fun r9 =>
((some r9.1).bind getB).bind fun b10 =>
some ((.bool b10), r9.2)).bind fun r8 =>
((some r8.1).bind getB).bind fun b11 =>
(if b11 = true then
((run (Et base) 159 [(.int .u8 (66 : Int)), (.pointer (some ⟨(List.length r3.2), 0, none⟩))] r8.2).bind fun r13 =>
((some r13.1).bind getB).bind fun b14 =>
some ((.bool b14), r13.2)).bind fun r12 =>
((some r12.1).bind getB).bind fun b15 =>
(if b15 = true then
((run (Et base) 159 [(.int .u8 (67 : Int)), (.pointer (some ⟨(List.length r3.2), 0, none⟩))] r12.2).bind fun r17 =>
((some r17.1).bind getB).bind fun b18 =>
some ((.bool b18), r17.2)).bind fun r16 =>
((some r16.1).bind getB).bind fun b19 =>
(if b19 = true then
((run (Et base) 159 [(.int .u8 (78 : Int)), (.pointer (some ⟨(List.length r3.2), 0, none⟩))] r16.2).bind fun r21 =>
((some r21.1).bind getB).bind fun b22 =>
some ((.bool b22), r21.2)).bind fun r20 =>
((some r20.1).bind getB).bind fun b23 =>
(if b23 = true then
((run (Et base) 159 [(.int .u8 (83 : Int)), (.pointer (some ⟨(List.length r3.2), 0, none⟩))] r20.2).bind fun r25 =>
((some r25.1).bind getB).bind fun b26 =>
some ((.bool b26), r25.2)).bind fun r24 =>
((some r24.1).bind getB).bind fun b27 =>
(if b27 = true then
some ((.bool true), r24.2)
else
((cell r24.2 (List.length h) 5).bind getStr).bind fun s28 =>
some ((.bool (s28.toList == (⟨#[]⟩ : ByteArray).toList)), r24.2))
else
((cell r20.2 (List.length h) 4).bind (getI .i64)).bind fun n29 =>
(if (n29 == (0 : Int)) = true then
((run (Et base) 159 [(.int .u8 (83 : Int)), (.pointer (some ⟨(List.length r3.2), 0, none⟩))] r20.2).bind fun r31 =>
((some r31.1).bind getB).bind fun b32 =>
some ((.bool b32), r31.2)).bind fun r30 =>
((some r30.1).bind getB).bind fun b33 =>
(if b33 = true then
some ((.bool true), r30.2)
else
((cell r30.2 (List.length h) 5).bind getStr).bind fun s34 =>
some ((.bool (s34.toList == (⟨#[]⟩ : ByteArray).toList)), r30.2))
else
some ((.bool false), r20.2)))
else
((cell r16.2 (List.length h) 3).bind (getI .i64)).bind fun n35 =>
(if (n35 == (0 : Int)) = true then
((run (Et base) 159 [(.int .u8 (78 : Int)), (.pointer (some ⟨(List.length r3.2), 0, none⟩))] r16.2).bind fun r37 =>
((some r37.1).bind getB).bind fun b38 =>
some ((.bool b38), r37.2)).bind fun r36 =>
((some r36.1).bind getB).bind fun b39 =>
(if b39 = true then
((run (Et base) 159 [(.int .u8 (83 : Int)), (.pointer (some ⟨(List.length r3.2), 0, none⟩))] r36.2).bind fun r41 =>
((some r41.1).bind getB).bind fun b42 =>
some ((.bool b42), r41.2)).bind fun r40 =>
((some r40.1).bind getB).bind fun b43 =>
(if b43 = true then
some ((.bool true), r40.2)
else
((cell r40.2 (List.length h) 5).bind getStr).bind fun s44 =>
some ((.bool (s44.toList == (⟨#[]⟩ : ByteArray).toList)), r40.2))
else
((cell r36.2 (List.length h) 4).bind (getI .i64)).bind fun n45 =>
(if (n45 == (0 : Int)) = true then
((run (Et base) 159 [(.int .u8 (83 : Int)), (.pointer (some ⟨(List.length r3.2), 0, none⟩))] r36.2).bind fun r47 =>
((some r47.1).bind getB).bind fun b48 =>
some ((.bool b48), r47.2)).bind fun r46 =>
((some r46.1).bind getB).bind fun b49 =>
(if b49 = true then
some ((.bool true), r46.2)
else
((cell r46.2 (List.length h) 5).bind getStr).bind fun s50 =>
some ((.bool (s50.toList == (⟨#[]⟩ : ByteArray).toList)), r46.2))
else
some ((.bool false), r36.2)))
else
some ((.bool false), r16.2)))
else
((cell r12.2 (List.length h) 2).bind (getI .i64)).bind fun n51 =>
(if (n51 == (0 : Int)) = true then
((run (Et base) 159 [(.int .u8 (67 : Int)), (.pointer (some ⟨(List.length r3.2), 0, none⟩))] r12.2).bind fun r53 =>
((some r53.1).bind getB).bind fun b54 =>
some ((.bool b54), r53.2)).bind fun r52 =>
((some r52.1).bind getB).bind fun b55 =>
(if b55 = true then
((run (Et base) 159 [(.int .u8 (78 : Int)), (.pointer (some ⟨(List.length r3.2), 0, none⟩))] r52.2).bind fun r57 =>
((some r57.1).bind getB).bind fun b58 =>
some ((.bool b58), r57.2)).bind fun r56 =>
((some r56.1).bind getB).bind fun b59 =>
(if b59 = true then
((run (Et base) 159 [(.int .u8 (83 : Int)), (.pointer (some ⟨(List.length r3.2), 0, none⟩))] r56.2).bind fun r61 =>
((some r61.1).bind getB).bind fun b62 =>
some ((.bool b62), r61.2)).bind fun r60 =>
((some r60.1).bind getB).bind fun b63 =>
(if b63 = true then
some ((.bool true), r60.2)
else
((cell r60.2 (List.length h) 5).bind getStr).bind fun s64 =>
some ((.bool (s64.toList == (⟨#[]⟩ : ByteArray).toList)), r60.2))
else
((cell r56.2 (List.length h) 4).bind (getI .i64)).bind fun n65 =>
(if (n65 == (0 : Int)) = true then
((run (Et base) 159 [(.int .u8 (83 : Int)), (.pointer (some ⟨(List.length r3.2), 0, none⟩))] r56.2).bind fun r67 =>
((some r67.1).bind getB).bind fun b68 =>
some ((.bool b68), r67.2)).bind fun r66 =>
((some r66.1).bind getB).bind fun b69 =>
(if b69 = true then
some ((.bool true), r66.2)
else
((cell r66.2 (List.length h) 5).bind getStr).bind fun s70 =>
some ((.bool (s70.toList == (⟨#[]⟩ : ByteArray).toList)), r66.2))
else
some ((.bool false), r56.2)))
else
((cell r52.2 (List.length h) 3).bind (getI .i64)).bind fun n71 =>
(if (n71 == (0 : Int)) = true then
((run (Et base) 159 [(.int .u8 (78 : Int)), (.pointer (some ⟨(List.length r3.2), 0, none⟩))] r52.2).bind fun r73 =>
((some r73.1).bind getB).bind fun b74 =>
some ((.bool b74), r73.2)).bind fun r72 =>
((some r72.1).bind getB).bind fun b75 =>
(if b75 = true then
((run (Et base) 159 [(.int .u8 (83 : Int)), (.pointer (some ⟨(List.length r3.2), 0, none⟩))] r72.2).bind fun r77 =>
((some r77.1).bind getB).bind fun b78 =>
some ((.bool b78), r77.2)).bind fun r76 =>
((some r76.1).bind getB).bind fun b79 =>
(if b79 = true then
some ((.bool true), r76.2)
else
((cell r76.2 (List.length h) 5).bind getStr).bind fun s80 =>
some ((.bool (s80.toList == (⟨#[]⟩ : ByteArray).toList)), r76.2))
else
((cell r72.2 (List.length h) 4).bind (getI .i64)).bind fun n81 =>
(if (n81 == (0 : Int)) = true then
((run (Et base) 159 [(.int .u8 (83 : Int)), (.pointer (some ⟨(List.length r3.2), 0, none⟩))] r72.2).bind fun r83 =>
((some r83.1).bind getB).bind fun b84 =>
some ((.bool b84), r83.2)).bind fun r82 =>
((some r82.1).bind getB).bind fun b85 =>
(if b85 = true then
some ((.bool true), r82.2)
else
((cell r82.2 (List.length h) 5).bind getStr).bind fun s86 =>
some ((.bool (s86.toList == (⟨#[]⟩ : ByteArray).toList)), r82.2))
else
some ((.bool false), r72.2)))
else
some ((.bool false), r52.2)))
else
some ((.bool false), r12.2)))
else
((cell r8.2 (List.length h) 1).bind (getI .i64)).bind fun n87 =>
(if (n87 == (0 : Int)) = true then
((run (Et base) 159 [(.int .u8 (66 : Int)), (.pointer (some ⟨(List.length r3.2), 0, none⟩))] r8.2).bind fun r89 =>
((some r89.1).bind getB).bind fun b90 =>
some ((.bool b90), r89.2)).bind fun r88 =>
((some r88.1).bind getB).bind fun b91 =>
(if b91 = true then
((run (Et base) 159 [(.int .u8 (67 : Int)), (.pointer (some ⟨(List.length r3.2), 0, none⟩))] r88.2).bind fun r93 =>
((some r93.1).bind getB).bind fun b94 =>
some ((.bool b94), r93.2)).bind fun r92 =>
((some r92.1).bind getB).bind fun b95 =>
(if b95 = true then
((run (Et base) 159 [(.int .u8 (78 : Int)), (.pointer (some ⟨(List.length r3.2), 0, none⟩))] r92.2).bind fun r97 =>
((some r97.1).bind getB).bind fun b98 =>
some ((.bool b98), r97.2)).bind fun r96 =>
((some r96.1).bind getB).bind fun b99 =>
(if b99 = true then
((run (Et base) 159 [(.int .u8 (83 : Int)), (.pointer (some ⟨(List.length r3.2), 0, none⟩))] r96.2).bind fun r101 =>
((some r101.1).bind getB).bind fun b102 =>
some ((.bool b102), r101.2)).bind fun r100 =>
((some r100.1).bind getB).bind fun b103 =>
(if b103 = true then
some ((.bool true), r100.2)
else
((cell r100.2 (List.length h) 5).bind getStr).bind fun s104 =>
some ((.bool (s104.toList == (⟨#[]⟩ : ByteArray).toList)), r100.2))
else
((cell r96.2 (List.length h) 4).bind (getI .i64)).bind fun n105 =>
(if (n105 == (0 : Int)) = true then
((run (Et base) 159 [(.int .u8 (83 : Int)), (.pointer (some ⟨(List.length r3.2), 0, none⟩))] r96.2).bind fun r107 =>
((some r107.1).bind getB).bind fun b108 =>
some ((.bool b108), r107.2)).bind fun r106 =>
((some r106.1).bind getB).bind fun b109 =>
(if b109 = true then
some ((.bool true), r106.2)
else
((cell r106.2 (List.length h) 5).bind getStr).bind fun s110 =>
some ((.bool (s110.toList == (⟨#[]⟩ : ByteArray).toList)), r106.2))
else
some ((.bool false), r96.2)))
else
((cell r92.2 (List.length h) 3).bind (getI .i64)).bind fun n111 =>
(if (n111 == (0 : Int)) = true then
((run (Et base) 159 [(.int .u8 (78 : Int)), (.pointer (some ⟨(List.length r3.2), 0, none⟩))] r92.2).bind fun r113 =>
((some r113.1).bind getB).bind fun b114 =>
some ((.bool b114), r113.2)).bind fun r112 =>
((some r112.1).bind getB).bind fun b115 =>
(if b115 = true then
((run (Et base) 159 [(.int .u8 (83 : Int)), (.pointer (some ⟨(List.length r3.2), 0, none⟩))] r112.2).bind fun r117 =>
((some r117.1).bind getB).bind fun b118 =>
some ((.bool b118), r117.2)).bind fun r116 =>
((some r116.1).bind getB).bind fun b119 =>
(if b119 = true then
some ((.bool true), r116.2)
else
((cell r116.2 (List.length h) 5).bind getStr).bind fun s120 =>
some ((.bool (s120.toList == (⟨#[]⟩ : ByteArray).toList)), r116.2))
else
((cell r112.2 (List.length h) 4).bind (getI .i64)).bind fun n121 =>
(if (n121 == (0 : Int)) = true then
((run (Et base) 159 [(.int .u8 (83 : Int)), (.pointer (some ⟨(List.length r3.2), 0, none⟩))] r112.2).bind fun r123 =>
((some r123.1).bind getB).bind fun b124 =>
some ((.bool b124), r123.2)).bind fun r122 =>
((some r122.1).bind getB).bind fun b125 =>
(if b125 = true then
some ((.bool true), r122.2)
else
((cell r122.2 (List.length h) 5).bind getStr).bind fun s126 =>
some ((.bool (s126.toList == (⟨#[]⟩ : ByteArray).toList)), r122.2))
else
some ((.bool false), r112.2)))
else
some ((.bool false), r92.2)))
else
((cell r88.2 (List.length h) 2).bind (getI .i64)).bind fun n127 =>
(if (n127 == (0 : Int)) = true then
((run (Et base) 159 [(.int .u8 (67 : Int)), (.pointer (some ⟨(List.length r3.2), 0, none⟩))] r88.2).bind fun r129 =>
((some r129.1).bind getB).bind fun b130 =>
some ((.bool b130), r129.2)).bind fun r128 =>
((some r128.1).bind getB).bind fun b131 =>
(if b131 = true then
((run (Et base) 159 [(.int .u8 (78 : Int)), (.pointer (some ⟨(List.length r3.2), 0, none⟩))] r128.2).bind fun r133 =>
((some r133.1).bind getB).bind fun b134 =>
some ((.bool b134), r133.2)).bind fun r132 =>
((some r132.1).bind getB).bind fun b135 =>
(if b135 = true then
((run (Et base) 159 [(.int .u8 (83 : Int)), (.pointer (some ⟨(List.length r3.2), 0, none⟩))] r132.2).bind fun r137 =>
((some r137.1).bind getB).bind fun b138 =>
some ((.bool b138), r137.2)).bind fun r136 =>
((some r136.1).bind getB).bind fun b139 =>
(if b139 = true then
some ((.bool true), r136.2)
else
((cell r136.2 (List.length h) 5).bind getStr).bind fun s140 =>
some ((.bool (s140.toList == (⟨#[]⟩ : ByteArray).toList)), r136.2))
else
((cell r132.2 (List.length h) 4).bind (getI .i64)).bind fun n141 =>
(if (n141 == (0 : Int)) = true then
((run (Et base) 159 [(.int .u8 (83 : Int)), (.pointer (some ⟨(List.length r3.2), 0, none⟩))] r132.2).bind fun r143 =>
((some r143.1).bind getB).bind fun b144 =>
some ((.bool b144), r143.2)).bind fun r142 =>
((some r142.1).bind getB).bind fun b145 =>
(if b145 = true then
some ((.bool true), r142.2)
else
((cell r142.2 (List.length h) 5).bind getStr).bind fun s146 =>
some ((.bool (s146.toList == (⟨#[]⟩ : ByteArray).toList)), r142.2))
else
some ((.bool false), r132.2)))
else
((cell r128.2 (List.length h) 3).bind (getI .i64)).bind fun n147 =>
(if (n147 == (0 : Int)) = true then
((run (Et base) 159 [(.int .u8 (78 : Int)), (.pointer (some ⟨(List.length r3.2), 0, none⟩))] r128.2).bind fun r149 =>
((some r149.1).bind getB).bind fun b150 =>
some ((.bool b150), r149.2)).bind fun r148 =>
((some r148.1).bind getB).bind fun b151 =>
(if b151 = true then
((run (Et base) 159 [(.int .u8 (83 : Int)), (.pointer (some ⟨(List.length r3.2), 0, none⟩))] r148.2).bind fun r153 =>
((some r153.1).bind getB).bind fun b154 =>
some ((.bool b154), r153.2)).bind fun r152 =>
((some r152.1).bind getB).bind fun b155 =>
(if b155 = true then
some ((.bool true), r152.2)
else
((cell r152.2 (List.length h) 5).bind getStr).bind fun s156 =>
some ((.bool (s156.toList == (⟨#[]⟩ : ByteArray).toList)), r152.2))
else
((cell r148.2 (List.length h) 4).bind (getI .i64)).bind fun n157 =>
(if (n157 == (0 : Int)) = true then
((run (Et base) 159 [(.int .u8 (83 : Int)), (.pointer (some ⟨(List.length r3.2), 0, none⟩))] r148.2).bind fun r159 =>
((some r159.1).bind getB).bind fun b160 =>
some ((.bool b160), r159.2)).bind fun r158 =>
((some r158.1).bind getB).bind fun b161 =>
(if b161 = true then
some ((.bool true), r158.2)
else
((cell r158.2 (List.length h) 5).bind getStr).bind fun s162 =>
some ((.bool (s162.toList == (⟨#[]⟩ : ByteArray).toList)), r158.2))
else
some ((.bool false), r148.2)))
else
some ((.bool false), r128.2)))
else
some ((.bool false), r88.2)))
else
some ((.bool false), r8.2)))
else
some ((.bool false), h6))) = some r) : run (Et base) 145 [(.agg #[(.int .i64 v0_0), (.int .i64 v0_1), (.int .i64 v0_2), (.int .i64 v0_3), (.int .i64 v0_4), (.string v0_5)])] h = some r := run_i Try.func145 (by kernel_rfl) ((f145_eq base v0_0 v0_1 v0_2 v0_3 v0_4 v0_5 h).trans hx)
/-! impl.isReg (gates 0) -/
theorem f146_eq (base : Nat) (v0 : Int) (h : AH) : exFun (Et base) (run (Et base)) loopL a146 Try.f146 [(.int .i64 v0)] h =
((run (Et base) 67 [(.int .i64 v0), (.int .i64 (0 : Int)), (.int .i64 (7 : Int))] h).bind fun r1 =>
((some r1.1).bind getB).bind fun b2 =>
some ((.bool b2), r1.2) : Option (Value × AH)) := by kernel_rfl
theorem r146 {base : Nat} {v0 : Int} {h : AH} {r : Value × AH} (hx :
((run (Et base) 67 [(.int .i64 v0), (.int .i64 (0 : Int)), (.int .i64 (7 : Int))] h).bind fun r1 =>
((some r1.1).bind getB).bind fun b2 =>
some ((.bool b2), r1.2)) = some r) : run (Et base) 146 [(.int .i64 v0)] h = some r := run_i Try.func146 (by kernel_rfl) ((f146_eq base v0 h).trans hx)
/-! impl.AtomOk (gates 0) -/
noncomputable def B147_0 (base : Nat) : Body := fun l h => lay s147_0 l fun s => exCode (Et base) (run (Et base)) loopL a147_0 (subC [1, 0, 1, 0, 0] (bodyC Try.f147)) s h (keepK s147_0 e147_0)
theorem B147_0_eq (base : Nat) (v0 : ByteArray) (v3 : Int) (h : AH) : B147_0 base [some (.string v0), some (.int .i64 v3)] h =
((if (decide (v3 < (v0.size : Int))) = true then
((if 0 ≤ v3 ∧ v3 < (v0.size : Int) then
(run (Et base) 161 [(.int .u8 ((v0.data.toList.getD (Int.toNat v3) 0).toNat : Int))] h).bind fun r2 =>
((some r2.1).bind getB).bind fun b3 =>
(if (!b3) = true then
(if (v3 == (0 : Int)) = true then
some (.inl ([some (.string v0), some (.int .i64 v3), some (.bool true)], r2.2))
else
(if 0 ≤ v3 ∧ v3 < (v0.size : Int) then
(run (Et base) 162 [(.int .u8 ((v0.data.toList.getD (Int.toNat v3) 0).toNat : Int))] r2.2).bind fun r4 =>
((some r4.1).bind getB).bind fun b5 =>
some (.inl ([some (.string v0), some (.int .i64 v3), some (.bool (!b5))], r4.2))
else none))
else
some (.inl ([some (.string v0), some (.int .i64 v3), some (.bool false)], r2.2)))
else none)).bind fun j1 => joinK j1 fun j1 =>
((sget j1.1 0).bind getStr).bind fun s6 =>
((sget (j1.1.tail) 0).bind (getI .i64)).bind fun n7 =>
((sget (j1.1.tail.tail) 0).bind getB).bind fun b8 =>
(if b8 = true then
some (1, [some (.bool false)], j1.2)
else
some (0, [some (.string s6), some (.int .i64 (IntKind.wrap .i64 (n7 + (1 : Int))))], j1.2))
else
some (2, [some (.string v0)], h)) : Option (Nat × Slots × AH)) := by kernel_rfl
theorem f147_eq (base : Nat) (v0 : ByteArray) (h : AH) : exFun (Et base) (run (Et base)) loopL a147 Try.f147 [(.string v0)] h =
((loopL (B147_0 base) [some (.string v0), some (.int .i64 (0 : Int))] h).bind fun q1 =>
(if q1.1 = 1 then
((sget q1.2.1 0).bind getB).bind fun b2 =>
some ((.bool b2), q1.2.2)
else
(if q1.1 = 2 then
((sget q1.2.1 0).bind getStr).bind fun s3 =>
(run (Et base) 67 [(.int .i64 (s3.size : Int)), (.int .i64 (1 : Int)), (.int .i64 (12 : Int))] q1.2.2).bind fun r4 =>
((some r4.1).bind getB).bind fun b5 =>
some ((.bool b5), r4.2)
else
none)) : Option (Value × AH)) := by kernel_rfl
theorem r147 {base : Nat} {v0 : ByteArray} {h : AH} {r : Value × AH} (hx :
((loopL (B147_0 base) [some (.string v0), some (.int .i64 (0 : Int))] h).bind fun q1 =>
(if q1.1 = 1 then
((sget q1.2.1 0).bind getB).bind fun b2 =>
some ((.bool b2), q1.2.2)
else
(if q1.1 = 2 then
((sget q1.2.1 0).bind getStr).bind fun s3 =>
(run (Et base) 67 [(.int .i64 (s3.size : Int)), (.int .i64 (1 : Int)), (.int .i64 (12 : Int))] q1.2.2).bind fun r4 =>
((some r4.1).bind getB).bind fun b5 =>
some ((.bool b5), r4.2)
else
none))) = some r) : run (Et base) 147 [(.string v0)] h = some r := run_i Try.func147 (by kernel_rfl) ((f147_eq base v0 h).trans hx)
/-! spec.l8Letter (gates 0) -/
noncomputable def B151_0 (base : Nat) : Body := fun l h => lay s151_0 l fun s => exCode (Et base) (run (Et base)) loopL a151_0 (subC [1, 0, 1, 0, 0] (bodyC Try.f151)) s h (keepK s151_0 e151_0)
theorem B151_0_eq (base : Nat) (v0 : ByteArray) (v1 : Int) (v5 : Int) (h : AH) : B151_0 base [some (.string v0), some (.int .u8 v1), some (.int .i64 v5)] h =
((if (decide (v5 < (v0.size : Int))) = true then
(if 0 ≤ v5 ∧ v5 < (v0.size : Int) then
(if (((v0.data.toList.getD (Int.toNat v5) 0).toNat : Int) == v1) = true then
some (1, [some (.bool true)], h)
else
some (0, [some (.string v0), some (.int .u8 v1), some (.int .i64 (IntKind.wrap .i64 (v5 + (1 : Int))))], h))
else none)
else
some (2, [], h)) : Option (Nat × Slots × AH)) := by kernel_rfl
theorem f151_eq (base : Nat) (v0 : ByteArray) (v1 : Int) (h : AH) : exFun (Et base) (run (Et base)) loopL a151 Try.f151 [(.string v0), (.int .u8 v1)] h =
((loopL (B151_0 base) [some (.string v0), some (.int .u8 v1), some (.int .i64 (0 : Int))] h).bind fun q1 =>
(if q1.1 = 1 then
((sget q1.2.1 0).bind getB).bind fun b2 =>
some ((.bool b2), q1.2.2)
else
(if q1.1 = 2 then
some ((.bool false), q1.2.2)
else
none)) : Option (Value × AH)) := by kernel_rfl
theorem r151 {base : Nat} {v0 : ByteArray} {v1 : Int} {h : AH} {r : Value × AH} (hx :
((loopL (B151_0 base) [some (.string v0), some (.int .u8 v1), some (.int .i64 (0 : Int))] h).bind fun q1 =>
(if q1.1 = 1 then
((sget q1.2.1 0).bind getB).bind fun b2 =>
some ((.bool b2), q1.2.2)
else
(if q1.1 = 2 then
some ((.bool false), q1.2.2)
else
none))) = some r) : run (Et base) 151 [(.string v0), (.int .u8 v1)] h = some r := run_i Try.func151 (by kernel_rfl) ((f151_eq base v0 v1 h).trans hx)
/-! impl.shapeOf (gates 0) -/
theorem f158_eq (base : Nat) (v0 : Int) (h : AH) : exFun (Et base) (run (Et base)) loopL a158 Try.f158 [(.int .i64 v0)] h =
((if (v0 == (1 : Int)) = true then
some ((.string (⟨#[65, 78]⟩ : ByteArray)), h)
else
(if (v0 == (2 : Int)) = true then
some ((.string (⟨#[65, 83]⟩ : ByteArray)), h)
else
((if (v0 == (3 : Int)) = true then
some (.inl ([some (.int .i64 v0), some (.bool (v0 == (3 : Int)))], h))
else
(if (v0 == (7 : Int)) = true then
some (.inl ([some (.int .i64 v0), some (.bool (v0 == (7 : Int)))], h))
else
(if (v0 == (8 : Int)) = true then
some (.inl ([some (.int .i64 v0), some (.bool (v0 == (8 : Int)))], h))
else
some (.inl ([some (.int .i64 v0), some (.bool (v0 == (13 : Int)))], h)))))).bind fun j1 => joinK j1 fun j1 =>
((sget j1.1 0).bind (getI .i64)).bind fun n2 =>
((sget (j1.1.tail) 0).bind getB).bind fun b3 =>
(if b3 = true then
some ((.string (⟨#[65, 66]⟩ : ByteArray)), j1.2)
else
((if (n2 == (4 : Int)) = true then
some (.inl ([some (.int .i64 n2), some (.bool (n2 == (4 : Int)))], j1.2))
else
(if (n2 == (6 : Int)) = true then
some (.inl ([some (.int .i64 n2), some (.bool (n2 == (6 : Int)))], j1.2))
else
(if (n2 == (10 : Int)) = true then
some (.inl ([some (.int .i64 n2), some (.bool (n2 == (10 : Int)))], j1.2))
else
(if (n2 == (11 : Int)) = true then
some (.inl ([some (.int .i64 n2), some (.bool (n2 == (11 : Int)))], j1.2))
else
some (.inl ([some (.int .i64 n2), some (.bool (n2 == (16 : Int)))], j1.2))))))).bind fun j4 => joinK j4 fun j4 =>
((sget j4.1 0).bind (getI .i64)).bind fun n5 =>
((sget (j4.1.tail) 0).bind getB).bind fun b6 =>
(if b6 = true then
some ((.string (⟨#[65, 66, 78]⟩ : ByteArray)), j4.2)
else
((if (n5 == (5 : Int)) = true then
some (.inl ([some (.int .i64 n5), some (.bool (n5 == (5 : Int)))], j4.2))
else
some (.inl ([some (.int .i64 n5), some (.bool (n5 == (9 : Int)))], j4.2)))).bind fun j7 => joinK j7 fun j7 =>
((sget j7.1 0).bind (getI .i64)).bind fun n8 =>
((sget (j7.1.tail) 0).bind getB).bind fun b9 =>
(if b9 = true then
some ((.string (⟨#[65, 66, 67]⟩ : ByteArray)), j7.2)
else
(if (n8 == (12 : Int)) = true then
some ((.string (⟨#[78]⟩ : ByteArray)), j7.2)
else
((if (n8 == (14 : Int)) = true then
some (.inl ([some (.bool (n8 == (14 : Int)))], j7.2))
else
(if (n8 == (15 : Int)) = true then
some (.inl ([some (.bool (n8 == (15 : Int)))], j7.2))
else
(if (n8 == (17 : Int)) = true then
some (.inl ([some (.bool (n8 == (17 : Int)))], j7.2))
else
(if (n8 == (18 : Int)) = true then
some (.inl ([some (.bool (n8 == (18 : Int)))], j7.2))
else
(if (n8 == (19 : Int)) = true then
some (.inl ([some (.bool (n8 == (19 : Int)))], j7.2))
else
some (.inl ([some (.bool (n8 == (20 : Int)))], j7.2)))))))).bind fun j10 => joinK j10 fun j10 =>
((sget j10.1 0).bind getB).bind fun b11 =>
(if b11 = true then
some ((.string (⟨#[65]⟩ : ByteArray)), j10.2)
else
some ((.string (⟨#[]⟩ : ByteArray)), j10.2)))))))) : Option (Value × AH)) := by kernel_rfl
theorem r158 {base : Nat} {v0 : Int} {h : AH} {r : Value × AH} (hx :
((if (v0 == (1 : Int)) = true then
some ((.string (⟨#[65, 78]⟩ : ByteArray)), h)
else
(if (v0 == (2 : Int)) = true then
some ((.string (⟨#[65, 83]⟩ : ByteArray)), h)
else
((if (v0 == (3 : Int)) = true then
some (.inl ([some (.int .i64 v0), some (.bool (v0 == (3 : Int)))], h))
else
(if (v0 == (7 : Int)) = true then
some (.inl ([some (.int .i64 v0), some (.bool (v0 == (7 : Int)))], h))
else
(if (v0 == (8 : Int)) = true then
some (.inl ([some (.int .i64 v0), some (.bool (v0 == (8 : Int)))], h))
else
some (.inl ([some (.int .i64 v0), some (.bool (v0 == (13 : Int)))], h)))))).bind fun j1 => joinK j1 fun j1 =>
((sget j1.1 0).bind (getI .i64)).bind fun n2 =>
((sget (j1.1.tail) 0).bind getB).bind fun b3 =>
(if b3 = true then
some ((.string (⟨#[65, 66]⟩ : ByteArray)), j1.2)
else
((if (n2 == (4 : Int)) = true then
some (.inl ([some (.int .i64 n2), some (.bool (n2 == (4 : Int)))], j1.2))
else
(if (n2 == (6 : Int)) = true then
some (.inl ([some (.int .i64 n2), some (.bool (n2 == (6 : Int)))], j1.2))
else
(if (n2 == (10 : Int)) = true then
some (.inl ([some (.int .i64 n2), some (.bool (n2 == (10 : Int)))], j1.2))
else
(if (n2 == (11 : Int)) = true then
some (.inl ([some (.int .i64 n2), some (.bool (n2 == (11 : Int)))], j1.2))
else
some (.inl ([some (.int .i64 n2), some (.bool (n2 == (16 : Int)))], j1.2))))))).bind fun j4 => joinK j4 fun j4 =>
((sget j4.1 0).bind (getI .i64)).bind fun n5 =>
((sget (j4.1.tail) 0).bind getB).bind fun b6 =>
(if b6 = true then
some ((.string (⟨#[65, 66, 78]⟩ : ByteArray)), j4.2)
else
((if (n5 == (5 : Int)) = true then
some (.inl ([some (.int .i64 n5), some (.bool (n5 == (5 : Int)))], j4.2))
else
some (.inl ([some (.int .i64 n5), some (.bool (n5 == (9 : Int)))], j4.2)))).bind fun j7 => joinK j7 fun j7 =>
((sget j7.1 0).bind (getI .i64)).bind fun n8 =>
((sget (j7.1.tail) 0).bind getB).bind fun b9 =>
(if b9 = true then
some ((.string (⟨#[65, 66, 67]⟩ : ByteArray)), j7.2)
else
(if (n8 == (12 : Int)) = true then
some ((.string (⟨#[78]⟩ : ByteArray)), j7.2)
else
((if (n8 == (14 : Int)) = true then
some (.inl ([some (.bool (n8 == (14 : Int)))], j7.2))
else
(if (n8 == (15 : Int)) = true then
some (.inl ([some (.bool (n8 == (15 : Int)))], j7.2))
else
(if (n8 == (17 : Int)) = true then
some (.inl ([some (.bool (n8 == (17 : Int)))], j7.2))
else
(if (n8 == (18 : Int)) = true then
some (.inl ([some (.bool (n8 == (18 : Int)))], j7.2))
else
(if (n8 == (19 : Int)) = true then
some (.inl ([some (.bool (n8 == (19 : Int)))], j7.2))
else
some (.inl ([some (.bool (n8 == (20 : Int)))], j7.2)))))))).bind fun j10 => joinK j10 fun j10 =>
((sget j10.1 0).bind getB).bind fun b11 =>
(if b11 = true then
some ((.string (⟨#[65]⟩ : ByteArray)), j10.2)
else
some ((.string (⟨#[]⟩ : ByteArray)), j10.2))))))))) = some r) : run (Et base) 158 [(.int .i64 v0)] h = some r := run_i Try.func158 (by kernel_rfl) ((f158_eq base v0 h).trans hx)
/-! impl.onlyNamed$1 (gates 0) -/
theorem f159_eq (base : Nat) (v0 : Int) (w0 : Addr) (h : AH) : exFun (Et base) (run (Et base)) loopL a159 Try.f159 [(.int .u8 v0), (.pointer (some w0))] h =
(((cell h w0.block w0.off).bind getStr).bind fun s1 =>
(run (Et base) 160 [(.string s1), (.int .u8 v0)] h).bind fun r2 =>
((some r2.1).bind (getI .i64)).bind fun n3 =>
some ((.bool (decide (n3 ≥ (0 : Int)))), r2.2) : Option (Value × AH)) := by kernel_rfl
theorem r159 {base : Nat} {v0 : Int} {w0 : Addr} {h : AH} {r : Value × AH} (hx :
(((cell h w0.block w0.off).bind getStr).bind fun s1 =>
(run (Et base) 160 [(.string s1), (.int .u8 v0)] h).bind fun r2 =>
((some r2.1).bind (getI .i64)).bind fun n3 =>
some ((.bool (decide (n3 ≥ (0 : Int)))), r2.2)) = some r) : run (Et base) 159 [(.int .u8 v0), (.pointer (some w0))] h = some r := run_i Try.func159 (by kernel_rfl) ((f159_eq base v0 w0 h).trans hx)
/-! strings.IndexByte (gates 0) -/
theorem f160_eq (base : Nat) (v0 : ByteArray) (v1 : Int) (h : AH) : exFun (Et base) (run (Et base)) loopL a160 Try.f160 [(.string v0), (.int .u8 v1)] h =
((run (Et base) 174 [(.string v0), (.int .u8 v1)] h).bind fun r1 =>
((some r1.1).bind (getI .i64)).bind fun n2 =>
some ((.int .i64 n2), r1.2) : Option (Value × AH)) := by kernel_rfl
theorem r160 {base : Nat} {v0 : ByteArray} {v1 : Int} {h : AH} {r : Value × AH} (hx :
((run (Et base) 174 [(.string v0), (.int .u8 v1)] h).bind fun r1 =>
((some r1.1).bind (getI .i64)).bind fun n2 =>
some ((.int .i64 n2), r1.2)) = some r) : run (Et base) 160 [(.string v0), (.int .u8 v1)] h = some r := run_i Try.func160 (by kernel_rfl) ((f160_eq base v0 v1 h).trans hx)
/-! impl.isSmall (gates 0) -/
theorem f161_eq (base : Nat) (v0 : Int) (h : AH) : exFun (Et base) (run (Et base)) loopL a161 Try.f161 [(.int .u8 v0)] h =
((if (decide (v0 ≥ (97 : Int))) = true then
some ((.bool (decide (v0 ≤ (122 : Int)))), h)
else
some ((.bool false), h)) : Option (Value × AH)) := by kernel_rfl
theorem r161 {base : Nat} {v0 : Int} {h : AH} {r : Value × AH} (hx :
((if (decide (v0 ≥ (97 : Int))) = true then
some ((.bool (decide (v0 ≤ (122 : Int)))), h)
else
some ((.bool false), h))) = some r) : run (Et base) 161 [(.int .u8 v0)] h = some r := run_i Try.func161 (by kernel_rfl) ((f161_eq base v0 h).trans hx)
/-! impl.isDigit (gates 0) -/
theorem f162_eq (base : Nat) (v0 : Int) (h : AH) : exFun (Et base) (run (Et base)) loopL a162 Try.f162 [(.int .u8 v0)] h =
((if (decide (v0 ≥ (48 : Int))) = true then
some ((.bool (decide (v0 ≤ (57 : Int)))), h)
else
some ((.bool false), h)) : Option (Value × AH)) := by kernel_rfl
theorem r162 {base : Nat} {v0 : Int} {h : AH} {r : Value × AH} (hx :
((if (decide (v0 ≥ (48 : Int))) = true then
some ((.bool (decide (v0 ≤ (57 : Int)))), h)
else
some ((.bool false), h))) = some r) : run (Et base) 162 [(.int .u8 v0)] h = some r := run_i Try.func162 (by kernel_rfl) ((f162_eq base v0 h).trans hx)
/-! stringslite.IndexByte (gates 0) -/
theorem f174_eq (base : Nat) (v0 : ByteArray) (v1 : Int) (h : AH) : exFun (Et base) (run (Et base)) loopL a174 Try.f174 [(.string v0), (.int .u8 v1)] h =
(some ((.int .i64 (firstIdx v0 (Nat.toUInt8 (Int.toNat v1)))), h) : Option (Value × AH)) := by kernel_rfl
theorem r174 {base : Nat} {v0 : ByteArray} {v1 : Int} {h : AH} {r : Value × AH} (hx :
(some ((.int .i64 (firstIdx v0 (Nat.toUInt8 (Int.toNat v1)))), h)) = some r) : run (Et base) 174 [(.string v0), (.int .u8 v1)] h = some r := run_i Try.func174 (by kernel_rfl) ((f174_eq base v0 v1 h).trans hx)
end Go.Proofs.Ytnmjhhipbfngkaa.Am
