/- What each of these functions comes to on the abstract machine, one equation a function and one a loop.
Conditions: none. -/
import Derived.Test.YtolcnednfbbnnaaTb
set_option linter.unusedVariables false
set_option maxRecDepth 100000
namespace Go.Proofs.Ytolcnednfbbnnaa.Am
open Go Go.RowKit
/-! laws.FnExactPlainNew (gates 5) -/
theorem f3_eq (base : Nat) (v0 : Option Addr) (v0n : Nat) (v1_0 : Int) (v1_1 : Int) (v1_2 : ByteArray) (v1_3 : Option Addr) (v1_3n : Nat) (h : AH) : exFun (Et base) (run (Et base)) loopL a3 Try.f3 [(.slice v0 v0n v0n), (.agg #[(.int .i64 v1_0), (.int .i64 v1_1), (.string v1_2), (.slice v1_3 v1_3n v1_3n)])] h =
((some (h ++ [some ⟨[(.int .i64 v1_0), (.int .i64 v1_1), (.string v1_2), (.slice v1_3 v1_3n v1_3n)], 25⟩])).bind fun h1 =>
(run (Et base) 7 [(.slice v0 v0n v0n), (.int .i64 (1048576 : Int))] h1).bind fun r2 =>
((some r2.1).bind (getI .i64)).bind fun n3 =>
(if (decide (n3 < (0 : Int))) = true then
some ((.bool true), r2.2)
else
((cell r2.2 (List.length h) 0).bind (getI .i64)).bind fun n4 =>
((cell r2.2 (List.length h) 1).bind (getI .i64)).bind fun n5 =>
((cell r2.2 (List.length h) 2).bind getStr).bind fun s6 =>
((cell r2.2 (List.length h) 3).bind getS).bind fun l7 =>
(run (Et base) 8 [(.agg #[(.int .i64 n4), (.int .i64 n5), (.string s6), (.slice l7.1 l7.2 l7.2)]), (.int .i64 n3)] r2.2).bind fun r8 =>
((some r8.1).bind (getI .i64)).bind fun n9 =>
(if (decide (n9 < (0 : Int))) = true then
some ((.bool true), r8.2)
else
(run (Et base) 10 [(.slice v0 v0n v0n)] r8.2).bind fun r10 =>
((some r10.1).bind getS).bind fun l11 =>
(gate (sameA r8.2 r10.2 (some ⟨(List.length h), 0, none⟩) 4)
(((cell r10.2 (List.length h) 0).bind (getI .i64)).bind fun n12 =>
((cell r10.2 (List.length h) 1).bind (getI .i64)).bind fun n13 =>
((cell r10.2 (List.length h) 2).bind getStr).bind fun s14 =>
((cell r10.2 (List.length h) 3).bind getS).bind fun l15 =>
(run (Et base) 11 [(.agg #[(.int .i64 n12), (.int .i64 n13), (.string s14), (.slice l15.1 l15.2 l15.2)])] r10.2).bind fun r16 =>
((some r16.1).bind (getAgg 4)).bind fun l17 =>
((l17[0]?).bind (getI .i64)).bind fun n18 =>
((l17[1]?).bind (getI .i64)).bind fun n19 =>
((l17[2]?).bind getStr).bind fun s20 =>
((l17[3]?).bind getS).bind fun l21 =>
(run (Et base) 9 [(.slice l11.1 l11.2 l11.2), (.agg #[(.int .i64 n18), (.int .i64 n19), (.string s20), (.slice l21.1 l21.2 l21.2)])] r16.2).bind fun r22 =>
(getTup 2 r22.1).bind fun l23 =>
((l23[0]?).bind (getAgg 4)).bind fun l24 =>
((l24[0]?).bind getS).bind fun l25 =>
((l24[1]?).bind getS).bind fun l26 =>
((l24[2]?).bind (getI .i64)).bind fun n27 =>
((l24[3]?).bind getS).bind fun l28 =>
((l23[1]?).bind getB).bind fun b29 =>
(gate (neA (some ⟨(List.length h), 0, none⟩) (List.length r22.2))
((some (r22.2 ++ [some ⟨[(.slice none 0 0), (.slice none 0 0), (.int .i64 0), (.slice none 0 0)], 32⟩])).bind fun h30 =>
(wr base h30 (List.length r22.2) 0 [(.slice l25.1 l25.2 l25.2), (.slice l26.1 l26.2 l26.2), (.int .i64 n27), (.slice l28.1 l28.2 l28.2)]).bind fun h31 =>
(run (Et base) 10 [(.slice v0 v0n v0n)] h31).bind fun r32 =>
((some r32.1).bind getS).bind fun l33 =>
((cell r32.2 (List.length h) 0).bind (getI .i64)).bind fun n34 =>
((cell r32.2 (List.length h) 1).bind (getI .i64)).bind fun n35 =>
((cell r32.2 (List.length h) 2).bind getStr).bind fun s36 =>
((cell r32.2 (List.length h) 3).bind getS).bind fun l37 =>
(run (Et base) 11 [(.agg #[(.int .i64 n34), (.int .i64 n35), (.string s36), (.slice l37.1 l37.2 l37.2)])] r32.2).bind fun r38 =>
((some r38.1).bind (getAgg 4)).bind fun l39 =>
((l39[0]?).bind (getI .i64)).bind fun n40 =>
((l39[1]?).bind (getI .i64)).bind fun n41 =>
((l39[2]?).bind getStr).bind fun s42 =>
((l39[3]?).bind getS).bind fun l43 =>
(some (r38.2 ++ [some ⟨[(.int .i64 0), (.int .i64 0), (.string ⟨#[]⟩), (.slice none 0 0)], 38⟩])).bind fun h44 =>
(wr base h44 (List.length r38.2) 0 [(.int .i64 n40), (.int .i64 n41), (.string s42), (.slice l43.1 l43.2 l43.2)]).bind fun h45 =>
((cell h45 (List.length r38.2) 0).bind (getI .i64)).bind fun n46 =>
((cell h45 (List.length r38.2) 1).bind (getI .i64)).bind fun n47 =>
((cell h45 (List.length r38.2) 2).bind getStr).bind fun s48 =>
((cell h45 (List.length r38.2) 3).bind getS).bind fun l49 =>
(run (Et base) 12 [(.slice l33.1 l33.2 l33.2), (.agg #[(.int .i64 n46), (.int .i64 n47), (.string s48), (.slice l49.1 l49.2 l49.2)])] h45).bind fun r50 =>
(getTup 2 r50.1).bind fun l51 =>
((l51[0]?).bind (getAgg 4)).bind fun l52 =>
((l52[0]?).bind getS).bind fun l53 =>
((l52[1]?).bind getS).bind fun l54 =>
((l52[2]?).bind (getI .i64)).bind fun n55 =>
((l52[3]?).bind getS).bind fun l56 =>
((l51[1]?).bind getB).bind fun b57 =>
(some (r50.2 ++ [some ⟨[(.slice none 0 0), (.slice none 0 0), (.int .i64 0), (.slice none 0 0)], 32⟩])).bind fun h58 =>
(wr base h58 (List.length r50.2) 0 [(.slice l53.1 l53.2 l53.2), (.slice l54.1 l54.2 l54.2), (.int .i64 n55), (.slice l56.1 l56.2 l56.2)]).bind fun h59 =>
(((cell h59 (List.length r50.2) 0).bind getS).bind fun l61 =>
((cell h59 (List.length r50.2) 1).bind getS).bind fun l62 =>
((cell h59 (List.length r50.2) 2).bind (getI .i64)).bind fun n63 =>
((cell h59 (List.length r50.2) 3).bind getS).bind fun l64 =>
((cell h59 (List.length r22.2) 0).bind getS).bind fun l65 =>
((cell h59 (List.length r22.2) 1).bind getS).bind fun l66 =>
((cell h59 (List.length r22.2) 2).bind (getI .i64)).bind fun n67 =>
((cell h59 (List.length r22.2) 3).bind getS).bind fun l68 =>
(run (Et base) 13 [(.agg #[(.slice l61.1 l61.2 l61.2), (.slice l62.1 l62.2 l62.2), (.int .i64 n63), (.slice l64.1 l64.2 l64.2)]), (.agg #[(.slice l65.1 l65.2 l65.2), (.slice l66.1 l66.2 l66.2), (.int .i64 n67), (.slice l68.1 l68.2 l68.2)])] h59).bind fun r69 =>
((some r69.1).bind getB).bind fun b70 =>
(if (!b70) = true then
some (.inl ([some (.slice v0 v0n v0n), some (.pointer (some ⟨(List.length h), 0, none⟩)), some (.pointer (some ⟨(List.length r22.2), 0, none⟩)), some (.bool b29), some (.slice l33.1 l33.2 l33.2), some (.pointer (some ⟨(List.length r38.2), 0, none⟩)), some (.pointer (some ⟨(List.length r50.2), 0, none⟩)), some (.bool b57), some (.bool true)], r69.2))
else
some (.inl ([some (.slice v0 v0n v0n), some (.pointer (some ⟨(List.length h), 0, none⟩)), some (.pointer (some ⟨(List.length r22.2), 0, none⟩)), some (.bool b29), some (.slice l33.1 l33.2 l33.2), some (.pointer (some ⟨(List.length r38.2), 0, none⟩)), some (.pointer (some ⟨(List.length r50.2), 0, none⟩)), some (.bool b57), some (.bool (!(b57 == b29)))], r69.2)))).bind fun j60 => joinK j60 fun j60 =>
((sget j60.1 0).bind getS).bind fun l71 =>
((sget (j60.1.tail) 0).bind getA).bind fun d72 =>
((sget (j60.1.tail.tail) 0).bind getA).bind fun d73 =>
((sget (j60.1.tail.tail.tail) 0).bind getB).bind fun b74 =>
((sget (j60.1.tail.tail.tail.tail) 0).bind getS).bind fun l75 =>
((sget (j60.1.tail.tail.tail.tail.tail) 0).bind getA).bind fun d76 =>
((sget (j60.1.tail.tail.tail.tail.tail.tail) 0).bind getA).bind fun d77 =>
((sget (j60.1.tail.tail.tail.tail.tail.tail.tail) 0).bind getB).bind fun b78 =>
((sget (j60.1.tail.tail.tail.tail.tail.tail.tail.tail) 0).bind getB).bind fun b79 =>
(if b79 = true then
some ((.bool false), j60.2)
else
(run (Et base) 10 [(.slice l71.1 l71.2 l71.2)] j60.2).bind fun r80 =>
((some r80.1).bind getS).bind fun l81 =>
(run (Et base) 14 [(.slice l75.1 l75.2 l75.2), (.slice l81.1 l81.2 l81.2)] r80.2).bind fun r82 =>
((some r82.1).bind getB).bind fun b83 =>
(if (!b83) = true then
some ((.bool false), r82.2)
else
((cell r82.2 d76.block d76.off).bind (getI .i64)).bind fun n84 =>
((cell r82.2 d76.block (d76.off + 1)).bind (getI .i64)).bind fun n85 =>
((cell r82.2 d76.block ((d76.off + 1) + 1)).bind getStr).bind fun s86 =>
((cell r82.2 d76.block (((d76.off + 1) + 1) + 1)).bind getS).bind fun l87 =>
((cell r82.2 d72.block d72.off).bind (getI .i64)).bind fun n88 =>
((cell r82.2 d72.block (d72.off + 1)).bind (getI .i64)).bind fun n89 =>
((cell r82.2 d72.block ((d72.off + 1) + 1)).bind getStr).bind fun s90 =>
((cell r82.2 d72.block (((d72.off + 1) + 1) + 1)).bind getS).bind fun l91 =>
(run (Et base) 11 [(.agg #[(.int .i64 n88), (.int .i64 n89), (.string s90), (.slice l91.1 l91.2 l91.2)])] r82.2).bind fun r92 =>
((some r92.1).bind (getAgg 4)).bind fun l93 =>
((l93[0]?).bind (getI .i64)).bind fun n94 =>
((l93[1]?).bind (getI .i64)).bind fun n95 =>
((l93[2]?).bind getStr).bind fun s96 =>
((l93[3]?).bind getS).bind fun l97 =>
(gate (sameA r82.2 r92.2 (some d76) 4)
((run (Et base) 15 [(.agg #[(.int .i64 n84), (.int .i64 n85), (.string s86), (.slice l87.1 l87.2 l87.2)]), (.agg #[(.int .i64 n94), (.int .i64 n95), (.string s96), (.slice l97.1 l97.2 l97.2)])] r92.2).bind fun r98 =>
((some r98.1).bind getB).bind fun b99 =>
(if (!b99) = true then
some ((.bool false), r98.2)
else
(run (Et base) 16 [(.slice l75.1 l75.2 l75.2), (.int .i64 (1 : Int))] r98.2).bind fun r100 =>
((some r100.1).bind (getI .i64)).bind fun n101 =>
((cell r100.2 d76.block d76.off).bind (getI .i64)).bind fun n102 =>
((cell r100.2 d76.block (d76.off + 1)).bind (getI .i64)).bind fun n103 =>
((cell r100.2 d76.block ((d76.off + 1) + 1)).bind getStr).bind fun s104 =>
((cell r100.2 d76.block (((d76.off + 1) + 1) + 1)).bind getS).bind fun l105 =>
(run (Et base) 17 [(.agg #[(.int .i64 n102), (.int .i64 n103), (.string s104), (.slice l105.1 l105.2 l105.2)]), (.int .i64 n101)] r100.2).bind fun r106 =>
((some r106.1).bind (getI .i64)).bind fun n107 =>
((if (decide (n107 < (0 : Int))) = true then
some (.inl ([some (.slice l71.1 l71.2 l71.2), some (.pointer (some d72)), some (.pointer (some d73)), some (.bool b74), some (.pointer (some d77)), some (.bool true)], r106.2))
else
((cell r106.2 d77.block d77.off).bind getS).bind fun l109 =>
((cell r106.2 d77.block (d77.off + 1)).bind getS).bind fun l110 =>
((cell r106.2 d77.block ((d77.off + 1) + 1)).bind (getI .i64)).bind fun n111 =>
((cell r106.2 d77.block (((d77.off + 1) + 1) + 1)).bind getS).bind fun l112 =>
((cell r106.2 d73.block d73.off).bind getS).bind fun l113 =>
((cell r106.2 d73.block (d73.off + 1)).bind getS).bind fun l114 =>
((cell r106.2 d73.block ((d73.off + 1) + 1)).bind (getI .i64)).bind fun n115 =>
((cell r106.2 d73.block (((d73.off + 1) + 1) + 1)).bind getS).bind fun l116 =>
(run (Et base) 13 [(.agg #[(.slice l109.1 l109.2 l109.2), (.slice l110.1 l110.2 l110.2), (.int .i64 n111), (.slice l112.1 l112.2 l112.2)]), (.agg #[(.slice l113.1 l113.2 l113.2), (.slice l114.1 l114.2 l114.2), (.int .i64 n115), (.slice l116.1 l116.2 l116.2)])] r106.2).bind fun r117 =>
((some r117.1).bind getB).bind fun b118 =>
(if (!b118) = true then
some (.inl ([some (.slice l71.1 l71.2 l71.2), some (.pointer (some d72)), some (.pointer (some d73)), some (.bool b74), some (.pointer (some d77)), some (.bool true)], r117.2))
else
some (.inl ([some (.slice l71.1 l71.2 l71.2), some (.pointer (some d72)), some (.pointer (some d73)), some (.bool b74), some (.pointer (some d77)), some (.bool (!(b78 == b74)))], r117.2))))).bind fun j108 => joinK j108 fun j108 =>
((sget j108.1 0).bind getS).bind fun l119 =>
((sget (j108.1.tail) 0).bind getA).bind fun d120 =>
((sget (j108.1.tail.tail) 0).bind getA).bind fun d121 =>
((sget (j108.1.tail.tail.tail) 0).bind getB).bind fun b122 =>
((sget (j108.1.tail.tail.tail.tail) 0).bind getA).bind fun d123 =>
((sget (j108.1.tail.tail.tail.tail.tail) 0).bind getB).bind fun b124 =>
(if b124 = true then
some ((.bool false), j108.2)
else
((cell j108.2 d123.block d123.off).bind getS).bind fun l125 =>
((cell j108.2 d123.block (d123.off + 1)).bind getS).bind fun l126 =>
((cell j108.2 d123.block ((d123.off + 1) + 1)).bind (getI .i64)).bind fun n127 =>
((cell j108.2 d123.block (((d123.off + 1) + 1) + 1)).bind getS).bind fun l128 =>
(run (Et base) 18 [(.agg #[(.slice l125.1 l125.2 l125.2), (.slice l126.1 l126.2 l126.2), (.int .i64 n127), (.slice l128.1 l128.2 l128.2)]), (.int .i64 (1 : Int))] j108.2).bind fun r129 =>
((some r129.1).bind (getI .i64)).bind fun n130 =>
((cell r129.2 d123.block d123.off).bind getS).bind fun l131 =>
((cell r129.2 d123.block (d123.off + 1)).bind getS).bind fun l132 =>
((cell r129.2 d123.block ((d123.off + 1) + 1)).bind (getI .i64)).bind fun n133 =>
((cell r129.2 d123.block (((d123.off + 1) + 1) + 1)).bind getS).bind fun l134 =>
(run (Et base) 19 [(.agg #[(.slice l131.1 l131.2 l131.2), (.slice l132.1 l132.2 l132.2), (.int .i64 n133), (.slice l134.1 l134.2 l134.2)]), (.int .i64 (1 : Int))] r129.2).bind fun r135 =>
((some r135.1).bind (getI .i64)).bind fun n136 =>
(if (decide (n136 < (0 : Int))) = true then
some ((.bool false), r135.2)
else
(if (n136 != n130) = true then
some ((.bool false), r135.2)
else
(run (Et base) 10 [(.slice l119.1 l119.2 l119.2)] r135.2).bind fun r137 =>
((some r137.1).bind getS).bind fun l138 =>
(gate (sameA r135.2 r137.2 (some d120) 4)
(((cell r137.2 d120.block d120.off).bind (getI .i64)).bind fun n139 =>
((cell r137.2 d120.block (d120.off + 1)).bind (getI .i64)).bind fun n140 =>
((cell r137.2 d120.block ((d120.off + 1) + 1)).bind getStr).bind fun s141 =>
((cell r137.2 d120.block (((d120.off + 1) + 1) + 1)).bind getS).bind fun l142 =>
(run (Et base) 11 [(.agg #[(.int .i64 n139), (.int .i64 n140), (.string s141), (.slice l142.1 l142.2 l142.2)])] r137.2).bind fun r143 =>
((some r143.1).bind (getAgg 4)).bind fun l144 =>
((l144[0]?).bind (getI .i64)).bind fun n145 =>
((l144[1]?).bind (getI .i64)).bind fun n146 =>
((l144[2]?).bind getStr).bind fun s147 =>
((l144[3]?).bind getS).bind fun l148 =>
(run (Et base) 12 [(.slice l138.1 l138.2 l138.2), (.agg #[(.int .i64 n145), (.int .i64 n146), (.string s147), (.slice l148.1 l148.2 l148.2)])] r143.2).bind fun r149 =>
(getTup 2 r149.1).bind fun l150 =>
((l150[0]?).bind (getAgg 4)).bind fun l151 =>
((l151[0]?).bind getS).bind fun l152 =>
((l151[1]?).bind getS).bind fun l153 =>
((l151[2]?).bind (getI .i64)).bind fun n154 =>
((l151[3]?).bind getS).bind fun l155 =>
((l150[1]?).bind getB).bind fun b156 =>
(gate (neA (some d120) (List.length r149.2))
((some (r149.2 ++ [some ⟨[(.slice none 0 0), (.slice none 0 0), (.int .i64 0), (.slice none 0 0)], 32⟩])).bind fun h157 =>
(wr base h157 (List.length r149.2) 0 [(.slice l152.1 l152.2 l152.2), (.slice l153.1 l153.2 l153.2), (.int .i64 n154), (.slice l155.1 l155.2 l155.2)]).bind fun h158 =>
(((cell h158 (List.length r149.2) 0).bind getS).bind fun l160 =>
((cell h158 (List.length r149.2) 1).bind getS).bind fun l161 =>
((cell h158 (List.length r149.2) 2).bind (getI .i64)).bind fun n162 =>
((cell h158 (List.length r149.2) 3).bind getS).bind fun l163 =>
((cell h158 d121.block d121.off).bind getS).bind fun l164 =>
((cell h158 d121.block (d121.off + 1)).bind getS).bind fun l165 =>
((cell h158 d121.block ((d121.off + 1) + 1)).bind (getI .i64)).bind fun n166 =>
((cell h158 d121.block (((d121.off + 1) + 1) + 1)).bind getS).bind fun l167 =>
(run (Et base) 13 [(.agg #[(.slice l160.1 l160.2 l160.2), (.slice l161.1 l161.2 l161.2), (.int .i64 n162), (.slice l163.1 l163.2 l163.2)]), (.agg #[(.slice l164.1 l164.2 l164.2), (.slice l165.1 l165.2 l165.2), (.int .i64 n166), (.slice l167.1 l167.2 l167.2)])] h158).bind fun r168 =>
((some r168.1).bind getB).bind fun b169 =>
(if (!b169) = true then
some (.inl ([some (.pointer (some d123)), some (.int .i64 n130), some (.bool true)], r168.2))
else
some (.inl ([some (.pointer (some d123)), some (.int .i64 n130), some (.bool (!(b156 == b122)))], r168.2)))).bind fun j159 => joinK j159 fun j159 =>
((sget j159.1 0).bind getA).bind fun d170 =>
((sget (j159.1.tail) 0).bind (getI .i64)).bind fun n171 =>
((sget (j159.1.tail.tail) 0).bind getB).bind fun b172 =>
(if b172 = true then
some ((.bool false), j159.2)
else
((cell j159.2 d170.block d170.off).bind getS).bind fun l173 =>
((cell j159.2 d170.block (d170.off + 1)).bind getS).bind fun l174 =>
((cell j159.2 d170.block ((d170.off + 1) + 1)).bind (getI .i64)).bind fun n175 =>
((cell j159.2 d170.block (((d170.off + 1) + 1) + 1)).bind getS).bind fun l176 =>
(run (Et base) 19 [(.agg #[(.slice l173.1 l173.2 l173.2), (.slice l174.1 l174.2 l174.2), (.int .i64 n175), (.slice l176.1 l176.2 l176.2)]), (.int .i64 (1 : Int))] j159.2).bind fun r177 =>
((some r177.1).bind (getI .i64)).bind fun n178 =>
(if (decide (n178 < (0 : Int))) = true then
some ((.bool false), r177.2)
else
(if (n178 != n171) = true then
some ((.bool false), r177.2)
else
some ((.bool true), r177.2)))))))))))))))))))))) : Option (Value × AH)) := by kernel_rfl
theorem r3 {base : Nat} {v0 : Option Addr} {v0n : Nat} {v1_0 : Int} {v1_1 : Int} {v1_2 : ByteArray} {v1_3 : Option Addr} {v1_3n : Nat} {h : AH} {r : Value × AH} (hx :
((some (h ++ [some ⟨[(.int .i64 v1_0), (.int .i64 v1_1), (.string v1_2), (.slice v1_3 v1_3n v1_3n)], 25⟩])).bind fun h1 =>
(run (Et base) 7 [(.slice v0 v0n v0n), (.int .i64 (1048576 : Int))] h1).bind fun r2 =>
((some r2.1).bind (getI .i64)).bind fun n3 =>
(if (decide (n3 < (0 : Int))) = true then
some ((.bool true), r2.2)
else
((cell r2.2 (List.length h) 0).bind (getI .i64)).bind fun n4 =>
((cell r2.2 (List.length h) 1).bind (getI .i64)).bind fun n5 =>
((cell r2.2 (List.length h) 2).bind getStr).bind fun s6 =>
((cell r2.2 (List.length h) 3).bind getS).bind fun l7 =>
(run (Et base) 8 [(.agg #[(.int .i64 n4), (.int .i64 n5), (.string s6), (.slice l7.1 l7.2 l7.2)]), (.int .i64 n3)] r2.2).bind fun r8 =>
((some r8.1).bind (getI .i64)).bind fun n9 =>
(if (decide (n9 < (0 : Int))) = true then
some ((.bool true), r8.2)
else
(run (Et base) 10 [(.slice v0 v0n v0n)] r8.2).bind fun r10 =>
((some r10.1).bind getS).bind fun l11 =>
(gate (sameA r8.2 r10.2 (some ⟨(List.length h), 0, none⟩) 4)
(((cell r10.2 (List.length h) 0).bind (getI .i64)).bind fun n12 =>
((cell r10.2 (List.length h) 1).bind (getI .i64)).bind fun n13 =>
((cell r10.2 (List.length h) 2).bind getStr).bind fun s14 =>
((cell r10.2 (List.length h) 3).bind getS).bind fun l15 =>
(run (Et base) 11 [(.agg #[(.int .i64 n12), (.int .i64 n13), (.string s14), (.slice l15.1 l15.2 l15.2)])] r10.2).bind fun r16 =>
((some r16.1).bind (getAgg 4)).bind fun l17 =>
((l17[0]?).bind (getI .i64)).bind fun n18 =>
((l17[1]?).bind (getI .i64)).bind fun n19 =>
((l17[2]?).bind getStr).bind fun s20 =>
((l17[3]?).bind getS).bind fun l21 =>
(run (Et base) 9 [(.slice l11.1 l11.2 l11.2), (.agg #[(.int .i64 n18), (.int .i64 n19), (.string s20), (.slice l21.1 l21.2 l21.2)])] r16.2).bind fun r22 =>
(getTup 2 r22.1).bind fun l23 =>
((l23[0]?).bind (getAgg 4)).bind fun l24 =>
((l24[0]?).bind getS).bind fun l25 =>
((l24[1]?).bind getS).bind fun l26 =>
((l24[2]?).bind (getI .i64)).bind fun n27 =>
((l24[3]?).bind getS).bind fun l28 =>
((l23[1]?).bind getB).bind fun b29 =>
(gate (neA (some ⟨(List.length h), 0, none⟩) (List.length r22.2))
((some (r22.2 ++ [some ⟨[(.slice none 0 0), (.slice none 0 0), (.int .i64 0), (.slice none 0 0)], 32⟩])).bind fun h30 =>
(wr base h30 (List.length r22.2) 0 [(.slice l25.1 l25.2 l25.2), (.slice l26.1 l26.2 l26.2), (.int .i64 n27), (.slice l28.1 l28.2 l28.2)]).bind fun h31 =>
(run (Et base) 10 [(.slice v0 v0n v0n)] h31).bind fun r32 =>
((some r32.1).bind getS).bind fun l33 =>
((cell r32.2 (List.length h) 0).bind (getI .i64)).bind fun n34 =>
((cell r32.2 (List.length h) 1).bind (getI .i64)).bind fun n35 =>
((cell r32.2 (List.length h) 2).bind getStr).bind fun s36 =>
((cell r32.2 (List.length h) 3).bind getS).bind fun l37 =>
(run (Et base) 11 [(.agg #[(.int .i64 n34), (.int .i64 n35), (.string s36), (.slice l37.1 l37.2 l37.2)])] r32.2).bind fun r38 =>
((some r38.1).bind (getAgg 4)).bind fun l39 =>
((l39[0]?).bind (getI .i64)).bind fun n40 =>
((l39[1]?).bind (getI .i64)).bind fun n41 =>
((l39[2]?).bind getStr).bind fun s42 =>
((l39[3]?).bind getS).bind fun l43 =>
(some (r38.2 ++ [some ⟨[(.int .i64 0), (.int .i64 0), (.string ⟨#[]⟩), (.slice none 0 0)], 38⟩])).bind fun h44 =>
(wr base h44 (List.length r38.2) 0 [(.int .i64 n40), (.int .i64 n41), (.string s42), (.slice l43.1 l43.2 l43.2)]).bind fun h45 =>
((cell h45 (List.length r38.2) 0).bind (getI .i64)).bind fun n46 =>
((cell h45 (List.length r38.2) 1).bind (getI .i64)).bind fun n47 =>
((cell h45 (List.length r38.2) 2).bind getStr).bind fun s48 =>
((cell h45 (List.length r38.2) 3).bind getS).bind fun l49 =>
(run (Et base) 12 [(.slice l33.1 l33.2 l33.2), (.agg #[(.int .i64 n46), (.int .i64 n47), (.string s48), (.slice l49.1 l49.2 l49.2)])] h45).bind fun r50 =>
(getTup 2 r50.1).bind fun l51 =>
((l51[0]?).bind (getAgg 4)).bind fun l52 =>
((l52[0]?).bind getS).bind fun l53 =>
((l52[1]?).bind getS).bind fun l54 =>
((l52[2]?).bind (getI .i64)).bind fun n55 =>
((l52[3]?).bind getS).bind fun l56 =>
((l51[1]?).bind getB).bind fun b57 =>
(some (r50.2 ++ [some ⟨[(.slice none 0 0), (.slice none 0 0), (.int .i64 0), (.slice none 0 0)], 32⟩])).bind fun h58 =>
(wr base h58 (List.length r50.2) 0 [(.slice l53.1 l53.2 l53.2), (.slice l54.1 l54.2 l54.2), (.int .i64 n55), (.slice l56.1 l56.2 l56.2)]).bind fun h59 =>
(((cell h59 (List.length r50.2) 0).bind getS).bind fun l61 =>
((cell h59 (List.length r50.2) 1).bind getS).bind fun l62 =>
((cell h59 (List.length r50.2) 2).bind (getI .i64)).bind fun n63 =>
((cell h59 (List.length r50.2) 3).bind getS).bind fun l64 =>
((cell h59 (List.length r22.2) 0).bind getS).bind fun l65 =>
((cell h59 (List.length r22.2) 1).bind getS).bind fun l66 =>
((cell h59 (List.length r22.2) 2).bind (getI .i64)).bind fun n67 =>
((cell h59 (List.length r22.2) 3).bind getS).bind fun l68 =>
(run (Et base) 13 [(.agg #[(.slice l61.1 l61.2 l61.2), (.slice l62.1 l62.2 l62.2), (.int .i64 n63), (.slice l64.1 l64.2 l64.2)]), (.agg #[(.slice l65.1 l65.2 l65.2), (.slice l66.1 l66.2 l66.2), (.int .i64 n67), (.slice l68.1 l68.2 l68.2)])] h59).bind fun r69 =>
((some r69.1).bind getB).bind fun b70 =>
(if (!b70) = true then
some (.inl ([some (.slice v0 v0n v0n), some (.pointer (some ⟨(List.length h), 0, none⟩)), some (.pointer (some ⟨(List.length r22.2), 0, none⟩)), some (.bool b29), some (.slice l33.1 l33.2 l33.2), some (.pointer (some ⟨(List.length r38.2), 0, none⟩)), some (.pointer (some ⟨(List.length r50.2), 0, none⟩)), some (.bool b57), some (.bool true)], r69.2))
else
some (.inl ([some (.slice v0 v0n v0n), some (.pointer (some ⟨(List.length h), 0, none⟩)), some (.pointer (some ⟨(List.length r22.2), 0, none⟩)), some (.bool b29), some (.slice l33.1 l33.2 l33.2), some (.pointer (some ⟨(List.length r38.2), 0, none⟩)), some (.pointer (some ⟨(List.length r50.2), 0, none⟩)), some (.bool b57), some (.bool (!(b57 == b29)))], r69.2)))).bind fun j60 => joinK j60 fun j60 =>
((sget j60.1 0).bind getS).bind fun l71 =>
((sget (j60.1.tail) 0).bind getA).bind fun d72 =>
((sget (j60.1.tail.tail) 0).bind getA).bind fun d73 =>
((sget (j60.1.tail.tail.tail) 0).bind getB).bind fun b74 =>
((sget (j60.1.tail.tail.tail.tail) 0).bind getS).bind fun l75 =>
((sget (j60.1.tail.tail.tail.tail.tail) 0).bind getA).bind fun d76 =>
((sget (j60.1.tail.tail.tail.tail.tail.tail) 0).bind getA).bind fun d77 =>
((sget (j60.1.tail.tail.tail.tail.tail.tail.tail) 0).bind getB).bind fun b78 =>
((sget (j60.1.tail.tail.tail.tail.tail.tail.tail.tail) 0).bind getB).bind fun b79 =>
(if b79 = true then
some ((.bool false), j60.2)
else
(run (Et base) 10 [(.slice l71.1 l71.2 l71.2)] j60.2).bind fun r80 =>
((some r80.1).bind getS).bind fun l81 =>
(run (Et base) 14 [(.slice l75.1 l75.2 l75.2), (.slice l81.1 l81.2 l81.2)] r80.2).bind fun r82 =>
((some r82.1).bind getB).bind fun b83 =>
(if (!b83) = true then
some ((.bool false), r82.2)
else
((cell r82.2 d76.block d76.off).bind (getI .i64)).bind fun n84 =>
((cell r82.2 d76.block (d76.off + 1)).bind (getI .i64)).bind fun n85 =>
((cell r82.2 d76.block ((d76.off + 1) + 1)).bind getStr).bind fun s86 =>
((cell r82.2 d76.block (((d76.off + 1) + 1) + 1)).bind getS).bind fun l87 =>
((cell r82.2 d72.block d72.off).bind (getI .i64)).bind fun n88 =>
((cell r82.2 d72.block (d72.off + 1)).bind (getI .i64)).bind fun n89 =>
((cell r82.2 d72.block ((d72.off + 1) + 1)).bind getStr).bind fun s90 =>
((cell r82.2 d72.block (((d72.off + 1) + 1) + 1)).bind getS).bind fun l91 =>
(run (Et base) 11 [(.agg #[(.int .i64 n88), (.int .i64 n89), (.string s90), (.slice l91.1 l91.2 l91.2)])] r82.2).bind fun r92 =>
((some r92.1).bind (getAgg 4)).bind fun l93 =>
((l93[0]?).bind (getI .i64)).bind fun n94 =>
((l93[1]?).bind (getI .i64)).bind fun n95 =>
((l93[2]?).bind getStr).bind fun s96 =>
((l93[3]?).bind getS).bind fun l97 =>
(gate (sameA r82.2 r92.2 (some d76) 4)
((run (Et base) 15 [(.agg #[(.int .i64 n84), (.int .i64 n85), (.string s86), (.slice l87.1 l87.2 l87.2)]), (.agg #[(.int .i64 n94), (.int .i64 n95), (.string s96), (.slice l97.1 l97.2 l97.2)])] r92.2).bind fun r98 =>
((some r98.1).bind getB).bind fun b99 =>
(if (!b99) = true then
some ((.bool false), r98.2)
else
(run (Et base) 16 [(.slice l75.1 l75.2 l75.2), (.int .i64 (1 : Int))] r98.2).bind fun r100 =>
((some r100.1).bind (getI .i64)).bind fun n101 =>
((cell r100.2 d76.block d76.off).bind (getI .i64)).bind fun n102 =>
((cell r100.2 d76.block (d76.off + 1)).bind (getI .i64)).bind fun n103 =>
((cell r100.2 d76.block ((d76.off + 1) + 1)).bind getStr).bind fun s104 =>
((cell r100.2 d76.block (((d76.off + 1) + 1) + 1)).bind getS).bind fun l105 =>
(run (Et base) 17 [(.agg #[(.int .i64 n102), (.int .i64 n103), (.string s104), (.slice l105.1 l105.2 l105.2)]), (.int .i64 n101)] r100.2).bind fun r106 =>
((some r106.1).bind (getI .i64)).bind fun n107 =>
((if (decide (n107 < (0 : Int))) = true then
some (.inl ([some (.slice l71.1 l71.2 l71.2), some (.pointer (some d72)), some (.pointer (some d73)), some (.bool b74), some (.pointer (some d77)), some (.bool true)], r106.2))
else
((cell r106.2 d77.block d77.off).bind getS).bind fun l109 =>
((cell r106.2 d77.block (d77.off + 1)).bind getS).bind fun l110 =>
((cell r106.2 d77.block ((d77.off + 1) + 1)).bind (getI .i64)).bind fun n111 =>
((cell r106.2 d77.block (((d77.off + 1) + 1) + 1)).bind getS).bind fun l112 =>
((cell r106.2 d73.block d73.off).bind getS).bind fun l113 =>
((cell r106.2 d73.block (d73.off + 1)).bind getS).bind fun l114 =>
((cell r106.2 d73.block ((d73.off + 1) + 1)).bind (getI .i64)).bind fun n115 =>
((cell r106.2 d73.block (((d73.off + 1) + 1) + 1)).bind getS).bind fun l116 =>
(run (Et base) 13 [(.agg #[(.slice l109.1 l109.2 l109.2), (.slice l110.1 l110.2 l110.2), (.int .i64 n111), (.slice l112.1 l112.2 l112.2)]), (.agg #[(.slice l113.1 l113.2 l113.2), (.slice l114.1 l114.2 l114.2), (.int .i64 n115), (.slice l116.1 l116.2 l116.2)])] r106.2).bind fun r117 =>
((some r117.1).bind getB).bind fun b118 =>
(if (!b118) = true then
some (.inl ([some (.slice l71.1 l71.2 l71.2), some (.pointer (some d72)), some (.pointer (some d73)), some (.bool b74), some (.pointer (some d77)), some (.bool true)], r117.2))
else
some (.inl ([some (.slice l71.1 l71.2 l71.2), some (.pointer (some d72)), some (.pointer (some d73)), some (.bool b74), some (.pointer (some d77)), some (.bool (!(b78 == b74)))], r117.2))))).bind fun j108 => joinK j108 fun j108 =>
((sget j108.1 0).bind getS).bind fun l119 =>
((sget (j108.1.tail) 0).bind getA).bind fun d120 =>
((sget (j108.1.tail.tail) 0).bind getA).bind fun d121 =>
((sget (j108.1.tail.tail.tail) 0).bind getB).bind fun b122 =>
((sget (j108.1.tail.tail.tail.tail) 0).bind getA).bind fun d123 =>
((sget (j108.1.tail.tail.tail.tail.tail) 0).bind getB).bind fun b124 =>
(if b124 = true then
some ((.bool false), j108.2)
else
((cell j108.2 d123.block d123.off).bind getS).bind fun l125 =>
((cell j108.2 d123.block (d123.off + 1)).bind getS).bind fun l126 =>
((cell j108.2 d123.block ((d123.off + 1) + 1)).bind (getI .i64)).bind fun n127 =>
((cell j108.2 d123.block (((d123.off + 1) + 1) + 1)).bind getS).bind fun l128 =>
(run (Et base) 18 [(.agg #[(.slice l125.1 l125.2 l125.2), (.slice l126.1 l126.2 l126.2), (.int .i64 n127), (.slice l128.1 l128.2 l128.2)]), (.int .i64 (1 : Int))] j108.2).bind fun r129 =>
((some r129.1).bind (getI .i64)).bind fun n130 =>
((cell r129.2 d123.block d123.off).bind getS).bind fun l131 =>
((cell r129.2 d123.block (d123.off + 1)).bind getS).bind fun l132 =>
((cell r129.2 d123.block ((d123.off + 1) + 1)).bind (getI .i64)).bind fun n133 =>
((cell r129.2 d123.block (((d123.off + 1) + 1) + 1)).bind getS).bind fun l134 =>
(run (Et base) 19 [(.agg #[(.slice l131.1 l131.2 l131.2), (.slice l132.1 l132.2 l132.2), (.int .i64 n133), (.slice l134.1 l134.2 l134.2)]), (.int .i64 (1 : Int))] r129.2).bind fun r135 =>
((some r135.1).bind (getI .i64)).bind fun n136 =>
(if (decide (n136 < (0 : Int))) = true then
some ((.bool false), r135.2)
else
(if (n136 != n130) = true then
some ((.bool false), r135.2)
else
(run (Et base) 10 [(.slice l119.1 l119.2 l119.2)] r135.2).bind fun r137 =>
((some r137.1).bind getS).bind fun l138 =>
(gate (sameA r135.2 r137.2 (some d120) 4)
(((cell r137.2 d120.block d120.off).bind (getI .i64)).bind fun n139 =>
((cell r137.2 d120.block (d120.off + 1)).bind (getI .i64)).bind fun n140 =>
((cell r137.2 d120.block ((d120.off + 1) + 1)).bind getStr).bind fun s141 =>
((cell r137.2 d120.block (((d120.off + 1) + 1) + 1)).bind getS).bind fun l142 =>
(run (Et base) 11 [(.agg #[(.int .i64 n139), (.int .i64 n140), (.string s141), (.slice l142.1 l142.2 l142.2)])] r137.2).bind fun r143 =>
((some r143.1).bind (getAgg 4)).bind fun l144 =>
((l144[0]?).bind (getI .i64)).bind fun n145 =>
((l144[1]?).bind (getI .i64)).bind fun n146 =>
((l144[2]?).bind getStr).bind fun s147 =>
((l144[3]?).bind getS).bind fun l148 =>
(run (Et base) 12 [(.slice l138.1 l138.2 l138.2), (.agg #[(.int .i64 n145), (.int .i64 n146), (.string s147), (.slice l148.1 l148.2 l148.2)])] r143.2).bind fun r149 =>
(getTup 2 r149.1).bind fun l150 =>
((l150[0]?).bind (getAgg 4)).bind fun l151 =>
((l151[0]?).bind getS).bind fun l152 =>
((l151[1]?).bind getS).bind fun l153 =>
((l151[2]?).bind (getI .i64)).bind fun n154 =>
((l151[3]?).bind getS).bind fun l155 =>
((l150[1]?).bind getB).bind fun b156 =>
(gate (neA (some d120) (List.length r149.2))
((some (r149.2 ++ [some ⟨[(.slice none 0 0), (.slice none 0 0), (.int .i64 0), (.slice none 0 0)], 32⟩])).bind fun h157 =>
(wr base h157 (List.length r149.2) 0 [(.slice l152.1 l152.2 l152.2), (.slice l153.1 l153.2 l153.2), (.int .i64 n154), (.slice l155.1 l155.2 l155.2)]).bind fun h158 =>
(((cell h158 (List.length r149.2) 0).bind getS).bind fun l160 =>
((cell h158 (List.length r149.2) 1).bind getS).bind fun l161 =>
((cell h158 (List.length r149.2) 2).bind (getI .i64)).bind fun n162 =>
((cell h158 (List.length r149.2) 3).bind getS).bind fun l163 =>
((cell h158 d121.block d121.off).bind getS).bind fun l164 =>
((cell h158 d121.block (d121.off + 1)).bind getS).bind fun l165 =>
((cell h158 d121.block ((d121.off + 1) + 1)).bind (getI .i64)).bind fun n166 =>
((cell h158 d121.block (((d121.off + 1) + 1) + 1)).bind getS).bind fun l167 =>
(run (Et base) 13 [(.agg #[(.slice l160.1 l160.2 l160.2), (.slice l161.1 l161.2 l161.2), (.int .i64 n162), (.slice l163.1 l163.2 l163.2)]), (.agg #[(.slice l164.1 l164.2 l164.2), (.slice l165.1 l165.2 l165.2), (.int .i64 n166), (.slice l167.1 l167.2 l167.2)])] h158).bind fun r168 =>
((some r168.1).bind getB).bind fun b169 =>
(if (!b169) = true then
some (.inl ([some (.pointer (some d123)), some (.int .i64 n130), some (.bool true)], r168.2))
else
some (.inl ([some (.pointer (some d123)), some (.int .i64 n130), some (.bool (!(b156 == b122)))], r168.2)))).bind fun j159 => joinK j159 fun j159 =>
((sget j159.1 0).bind getA).bind fun d170 =>
((sget (j159.1.tail) 0).bind (getI .i64)).bind fun n171 =>
((sget (j159.1.tail.tail) 0).bind getB).bind fun b172 =>
(if b172 = true then
some ((.bool false), j159.2)
else
((cell j159.2 d170.block d170.off).bind getS).bind fun l173 =>
((cell j159.2 d170.block (d170.off + 1)).bind getS).bind fun l174 =>
((cell j159.2 d170.block ((d170.off + 1) + 1)).bind (getI .i64)).bind fun n175 =>
((cell j159.2 d170.block (((d170.off + 1) + 1) + 1)).bind getS).bind fun l176 =>
(run (Et base) 19 [(.agg #[(.slice l173.1 l173.2 l173.2), (.slice l174.1 l174.2 l174.2), (.int .i64 n175), (.slice l176.1 l176.2 l176.2)]), (.int .i64 (1 : Int))] j159.2).bind fun r177 =>
((some r177.1).bind (getI .i64)).bind fun n178 =>
(if (decide (n178 < (0 : Int))) = true then
some ((.bool false), r177.2)
else
(if (n178 != n171) = true then
some ((.bool false), r177.2)
else
some ((.bool true), r177.2))))))))))))))))))))))) = some r) : run (Et base) 3 [(.slice v0 v0n v0n), (.agg #[(.int .i64 v1_0), (.int .i64 v1_1), (.string v1_2), (.slice v1_3 v1_3n v1_3n)])] h = some r := run_i Try.func3 (by kernel_rfl) ((f3_eq base v0 v0n v1_0 v1_1 v1_2 v1_3 v1_3n h).trans hx)
/-! laws.szInsS (gates 0) -/
noncomputable def B7_0 (base : Nat) : Body := fun l h => lay s7_0 l fun s => exCode (Et base) (run (Et base)) loopL a7_0 (subC [1, 1, 1, 0, 1, 0, 0] (bodyC Try.f7)) s h (keepK s7_0 e7_0)
theorem B7_0_eq (base : Nat) (v0 : Option Addr) (v0n : Nat) (v1 : Int) (v5 : Int) (h : AH) : B7_0 base [some (.slice v0 v0n v0n), some (.int .i64 v1), some (.int .i64 v5)] h =
((if (decide (v5 < ((v0n : Nat) : Int))) = true then
(if 0 ≤ v5 ∧ v5 < ((v0n : Nat) : Int) then
((v0 : Option Addr)).bind fun a1 =>
((cell h a1.block (a1.off + Int.toNat v5 * 6)).bind (getI .i64)).bind fun n2 =>
((cell h a1.block ((a1.off + Int.toNat v5 * 6) + 1)).bind (getI .i64)).bind fun n3 =>
((cell h a1.block (((a1.off + Int.toNat v5 * 6) + 1) + 1)).bind (getI .i64)).bind fun n4 =>
((cell h a1.block ((((a1.off + Int.toNat v5 * 6) + 1) + 1) + 1)).bind (getI .i64)).bind fun n5 =>
((cell h a1.block (((((a1.off + Int.toNat v5 * 6) + 1) + 1) + 1) + 1)).bind (getI .i64)).bind fun n6 =>
((cell h a1.block ((((((a1.off + Int.toNat v5 * 6) + 1) + 1) + 1) + 1) + 1)).bind getStr).bind fun s7 =>
(run (Et base) 40 [(.agg #[(.int .i64 n2), (.int .i64 n3), (.int .i64 n4), (.int .i64 n5), (.int .i64 n6), (.string s7)]), (.int .i64 v1)] h).bind fun r8 =>
((some r8.1).bind (getI .i64)).bind fun n9 =>
(if (decide (n9 < (0 : Int))) = true then
some (1, [some (.int .i64 (-1 : Int))], r8.2)
else
some (0, [some (.slice v0 v0n v0n), some (.int .i64 n9), some (.int .i64 (IntKind.wrap .i64 (v5 + (1 : Int))))], r8.2))
else none)
else
some (2, [some (.int .i64 v1)], h)) : Option (Nat × Slots × AH)) := by kernel_rfl
theorem f7_eq (base : Nat) (v0 : Option Addr) (v0n : Nat) (v1 : Int) (h : AH) : exFun (Et base) (run (Et base)) loopL a7 Try.f7 [(.slice v0 v0n v0n), (.int .i64 v1)] h =
((if (decide ((IntKind.wrap .i64 (v1 - ((v0n : Nat) : Int))) < (0 : Int))) = true then
some ((.int .i64 (-1 : Int)), h)
else
(loopL (B7_0 base) [some (.slice v0 v0n v0n), some (.int .i64 (IntKind.wrap .i64 (v1 - ((v0n : Nat) : Int)))), some (.int .i64 (0 : Int))] h).bind fun q1 =>
(if q1.1 = 1 then
((sget q1.2.1 0).bind (getI .i64)).bind fun n2 =>
some ((.int .i64 n2), q1.2.2)
else
(if q1.1 = 2 then
((sget q1.2.1 0).bind (getI .i64)).bind fun n3 =>
some ((.int .i64 n3), q1.2.2)
else
none))) : Option (Value × AH)) := by kernel_rfl
theorem r7 {base : Nat} {v0 : Option Addr} {v0n : Nat} {v1 : Int} {h : AH} {r : Value × AH} (hx :
((if (decide ((IntKind.wrap .i64 (v1 - ((v0n : Nat) : Int))) < (0 : Int))) = true then
some ((.int .i64 (-1 : Int)), h)
else
(loopL (B7_0 base) [some (.slice v0 v0n v0n), some (.int .i64 (IntKind.wrap .i64 (v1 - ((v0n : Nat) : Int)))), some (.int .i64 (0 : Int))] h).bind fun q1 =>
(if q1.1 = 1 then
((sget q1.2.1 0).bind (getI .i64)).bind fun n2 =>
some ((.int .i64 n2), q1.2.2)
else
(if q1.1 = 2 then
((sget q1.2.1 0).bind (getI .i64)).bind fun n3 =>
some ((.int .i64 n3), q1.2.2)
else
none)))) = some r) : run (Et base) 7 [(.slice v0 v0n v0n), (.int .i64 v1)] h = some r := run_i Try.func7 (by kernel_rfl) ((f7_eq base v0 v0n v1 h).trans hx)
/-! laws.szTerm (gates 0) -/
theorem f8_eq (base : Nat) (v0_0 : Int) (v0_1 : Int) (v0_2 : ByteArray) (v0_3 : Option Addr) (v0_3n : Nat) (v1 : Int) (h : AH) : exFun (Et base) (run (Et base)) loopL a8 Try.f8 [(.agg #[(.int .i64 v0_0), (.int .i64 v0_1), (.string v0_2), (.slice v0_3 v0_3n v0_3n)]), (.int .i64 v1)] h =
((some (h ++ [some ⟨[(.int .i64 v0_0), (.int .i64 v0_1), (.string v0_2), (.slice v0_3 v0_3n v0_3n)], 25⟩])).bind fun h1 =>
((cell h1 (List.length h) 2).bind getStr).bind fun s2 =>
(if (decide ((IntKind.wrap .i64 (v1 - (s2.size : Int))) < (0 : Int))) = true then
some ((.int .i64 (-1 : Int)), h1)
else
((cell h1 (List.length h) 3).bind getS).bind fun l3 =>
(run (Et base) 41 [(.slice l3.1 l3.2 l3.2), (.int .i64 (IntKind.wrap .i64 (v1 - (s2.size : Int))))] h1).bind fun r4 =>
((some r4.1).bind (getI .i64)).bind fun n5 =>
(if (decide (n5 < (0 : Int))) = true then
some ((.int .i64 (-1 : Int)), r4.2)
else
some ((.int .i64 n5), r4.2))) : Option (Value × AH)) := by kernel_rfl
theorem r8 {base : Nat} {v0_0 : Int} {v0_1 : Int} {v0_2 : ByteArray} {v0_3 : Option Addr} {v0_3n : Nat} {v1 : Int} {h : AH} {r : Value × AH} (hx :
((some (h ++ [some ⟨[(.int .i64 v0_0), (.int .i64 v0_1), (.string v0_2), (.slice v0_3 v0_3n v0_3n)], 25⟩])).bind fun h1 =>
((cell h1 (List.length h) 2).bind getStr).bind fun s2 =>
(if (decide ((IntKind.wrap .i64 (v1 - (s2.size : Int))) < (0 : Int))) = true then
some ((.int .i64 (-1 : Int)), h1)
else
((cell h1 (List.length h) 3).bind getS).bind fun l3 =>
(run (Et base) 41 [(.slice l3.1 l3.2 l3.2), (.int .i64 (IntKind.wrap .i64 (v1 - (s2.size : Int))))] h1).bind fun r4 =>
((some r4.1).bind (getI .i64)).bind fun n5 =>
(if (decide (n5 < (0 : Int))) = true then
some ((.int .i64 (-1 : Int)), r4.2)
else
some ((.int .i64 n5), r4.2)))) = some r) : run (Et base) 8 [(.agg #[(.int .i64 v0_0), (.int .i64 v0_1), (.string v0_2), (.slice v0_3 v0_3n v0_3n)]), (.int .i64 v1)] h = some r := run_i Try.func8 (by kernel_rfl) ((f8_eq base v0_0 v0_1 v0_2 v0_3 v0_3n v1 h).trans hx)
/-! spec.PlainNew (gates 3) -/
theorem f9_eq (base : Nat) (v0 : Option Addr) (v0n : Nat) (v1_0 : Int) (v1_1 : Int) (v1_2 : ByteArray) (v1_3 : Option Addr) (v1_3n : Nat) (h : AH) : exFun (Et base) (run (Et base)) loopL a9 Try.f9 [(.slice v0 v0n v0n), (.agg #[(.int .i64 v1_0), (.int .i64 v1_1), (.string v1_2), (.slice v1_3 v1_3n v1_3n)])] h =
((some (h ++ [some ⟨[(.int .i64 v1_0), (.int .i64 v1_1), (.string v1_2), (.slice v1_3 v1_3n v1_3n)], 38⟩])).bind fun h1 =>
(some (h1 ++ [some ⟨[(.slice none 0 0), (.slice none 0 0), (.int .i64 0), (.slice none 0 0)], 32⟩])).bind fun h2 =>
(some (h2 ++ [some ⟨[], 82⟩])).bind fun h3 =>
(app base h3 82 6 56 (some ⟨(List.length h2), 0, none⟩) 0 (rawAt h3 v0 (v0n * 6)) v0n).bind fun p4 =>
((some p4.1).bind getS).bind fun l5 =>
(gate (neA (some ⟨(List.length h), 0, none⟩) (List.length h2))
((gate (sameA h3 p4.2 (some ⟨(List.length h), 0, none⟩) 4)
(((cell p4.2 (List.length h) 0).bind (getI .i64)).bind fun n6 =>
((cell p4.2 (List.length h) 1).bind (getI .i64)).bind fun n7 =>
((cell p4.2 (List.length h) 2).bind getStr).bind fun s8 =>
((cell p4.2 (List.length h) 3).bind getS).bind fun l9 =>
(run (Et base) 42 [(.int .i64 (1 : Int)), (.int .i64 (0 : Int)), (.agg #[(.int .i64 n6), (.int .i64 n7), (.string s8), (.slice l9.1 l9.2 l9.2)])] p4.2).bind fun r10 =>
((some r10.1).bind (getAgg 5)).bind fun l11 =>
((l11[0]?).bind (getI .i64)).bind fun n12 =>
((l11[1]?).bind (getI .i64)).bind fun n13 =>
((l11[2]?).bind getS).bind fun l14 =>
((l11[3]?).bind getS).bind fun l15 =>
((l11[4]?).bind getS).bind fun l16 =>
(some (r10.2 ++ [some ⟨[(.int .i64 n12), (.int .i64 n13), (.slice l14.1 l14.2 l14.2), (.slice l15.1 l15.2 l15.2), (.slice l16.1 l16.2 l16.2)], 52⟩])).bind fun h17 =>
(gate (neA (some ⟨(List.length h), 0, none⟩) (List.length h17))
((some (h17 ++ [some ⟨[(.slice none 0 0), (.slice none 0 0), (.int .i64 0), (.slice none 0 0)], 32⟩])).bind fun h18 =>
(wr base h18 (List.length h17) 0 [(.slice l5.1 l5.2 l5.2), (.slice (some ⟨(List.length r10.2), 0, none⟩) 1 1), (.int .i64 (2 : Int)), (.slice none 0 0)]).bind fun h19 =>
((cell h19 (List.length h17) 3).bind getS).bind fun l20 =>
((cell h19 (List.length h) 0).bind (getI .i64)).bind fun n21 =>
((cell h19 (List.length h) 1).bind (getI .i64)).bind fun n22 =>
((cell h19 (List.length h) 2).bind getStr).bind fun s23 =>
((cell h19 (List.length h) 3).bind getS).bind fun l24 =>
(run (Et base) 43 [(.slice l20.1 l20.2 l20.2), (.int .i64 (1 : Int)), (.int .i64 (1 : Int)), (.agg #[(.int .i64 n21), (.int .i64 n22), (.string s23), (.slice l24.1 l24.2 l24.2)])] h19).bind fun r25 =>
((some r25.1).bind getS).bind fun l26 =>
(wr base r25.2 (List.length h17) 3 [(.slice l26.1 l26.2 l26.2)]).bind fun h27 =>
((cell h27 (List.length h17) 0).bind getS).bind fun l28 =>
((cell h27 (List.length h17) 1).bind getS).bind fun l29 =>
((cell h27 (List.length h17) 2).bind (getI .i64)).bind fun n30 =>
((cell h27 (List.length h17) 3).bind getS).bind fun l31 =>
(run (Et base) 35 [(.agg #[(.slice l28.1 l28.2 l28.2), (.slice l29.1 l29.2 l29.2), (.int .i64 n30), (.slice l31.1 l31.2 l31.2)])] h27).bind fun r32 =>
((some r32.1).bind getB).bind fun b33 =>
(if (!b33) = true then
(wr base r32.2 (List.length h1) 0 [(.slice none 0 0), (.slice none 0 0), (.int .i64 (0 : Int)), (.slice none 0 0)]).bind fun h34 =>
((cell h34 (List.length h1) 0).bind getS).bind fun l35 =>
((cell h34 (List.length h1) 1).bind getS).bind fun l36 =>
((cell h34 (List.length h1) 2).bind (getI .i64)).bind fun n37 =>
((cell h34 (List.length h1) 3).bind getS).bind fun l38 =>
some ((.tuple #[(.agg #[(.slice l35.1 l35.2 l35.2), (.slice l36.1 l36.2 l36.2), (.int .i64 n37), (.slice l38.1 l38.2 l38.2)]), (.bool false)]), h34)
else
((cell r32.2 (List.length h17) 0).bind getS).bind fun l39 =>
((cell r32.2 (List.length h17) 1).bind getS).bind fun l40 =>
((cell r32.2 (List.length h17) 2).bind (getI .i64)).bind fun n41 =>
((cell r32.2 (List.length h17) 3).bind getS).bind fun l42 =>
(wr base r32.2 (List.length h1) 0 [(.slice l39.1 l39.2 l39.2), (.slice l40.1 l40.2 l40.2), (.int .i64 n41), (.slice l42.1 l42.2 l42.2)]).bind fun h43 =>
((cell h43 (List.length h1) 0).bind getS).bind fun l44 =>
((cell h43 (List.length h1) 1).bind getS).bind fun l45 =>
((cell h43 (List.length h1) 2).bind (getI .i64)).bind fun n46 =>
((cell h43 (List.length h1) 3).bind getS).bind fun l47 =>
some ((.tuple #[(.agg #[(.slice l44.1 l44.2 l44.2), (.slice l45.1 l45.2 l45.2), (.int .i64 n46), (.slice l47.1 l47.2 l47.2)]), (.bool true)]), h43)))))))) : Option (Value × AH)) := by kernel_rfl
theorem r9 {base : Nat} {v0 : Option Addr} {v0n : Nat} {v1_0 : Int} {v1_1 : Int} {v1_2 : ByteArray} {v1_3 : Option Addr} {v1_3n : Nat} {h : AH} {r : Value × AH} (hx :
((some (h ++ [some ⟨[(.int .i64 v1_0), (.int .i64 v1_1), (.string v1_2), (.slice v1_3 v1_3n v1_3n)], 38⟩])).bind fun h1 =>
(some (h1 ++ [some ⟨[(.slice none 0 0), (.slice none 0 0), (.int .i64 0), (.slice none 0 0)], 32⟩])).bind fun h2 =>
(some (h2 ++ [some ⟨[], 82⟩])).bind fun h3 =>
(app base h3 82 6 56 (some ⟨(List.length h2), 0, none⟩) 0 (rawAt h3 v0 (v0n * 6)) v0n).bind fun p4 =>
((some p4.1).bind getS).bind fun l5 =>
(gate (neA (some ⟨(List.length h), 0, none⟩) (List.length h2))
((gate (sameA h3 p4.2 (some ⟨(List.length h), 0, none⟩) 4)
(((cell p4.2 (List.length h) 0).bind (getI .i64)).bind fun n6 =>
((cell p4.2 (List.length h) 1).bind (getI .i64)).bind fun n7 =>
((cell p4.2 (List.length h) 2).bind getStr).bind fun s8 =>
((cell p4.2 (List.length h) 3).bind getS).bind fun l9 =>
(run (Et base) 42 [(.int .i64 (1 : Int)), (.int .i64 (0 : Int)), (.agg #[(.int .i64 n6), (.int .i64 n7), (.string s8), (.slice l9.1 l9.2 l9.2)])] p4.2).bind fun r10 =>
((some r10.1).bind (getAgg 5)).bind fun l11 =>
((l11[0]?).bind (getI .i64)).bind fun n12 =>
((l11[1]?).bind (getI .i64)).bind fun n13 =>
((l11[2]?).bind getS).bind fun l14 =>
((l11[3]?).bind getS).bind fun l15 =>
((l11[4]?).bind getS).bind fun l16 =>
(some (r10.2 ++ [some ⟨[(.int .i64 n12), (.int .i64 n13), (.slice l14.1 l14.2 l14.2), (.slice l15.1 l15.2 l15.2), (.slice l16.1 l16.2 l16.2)], 52⟩])).bind fun h17 =>
(gate (neA (some ⟨(List.length h), 0, none⟩) (List.length h17))
((some (h17 ++ [some ⟨[(.slice none 0 0), (.slice none 0 0), (.int .i64 0), (.slice none 0 0)], 32⟩])).bind fun h18 =>
(wr base h18 (List.length h17) 0 [(.slice l5.1 l5.2 l5.2), (.slice (some ⟨(List.length r10.2), 0, none⟩) 1 1), (.int .i64 (2 : Int)), (.slice none 0 0)]).bind fun h19 =>
((cell h19 (List.length h17) 3).bind getS).bind fun l20 =>
((cell h19 (List.length h) 0).bind (getI .i64)).bind fun n21 =>
((cell h19 (List.length h) 1).bind (getI .i64)).bind fun n22 =>
((cell h19 (List.length h) 2).bind getStr).bind fun s23 =>
((cell h19 (List.length h) 3).bind getS).bind fun l24 =>
(run (Et base) 43 [(.slice l20.1 l20.2 l20.2), (.int .i64 (1 : Int)), (.int .i64 (1 : Int)), (.agg #[(.int .i64 n21), (.int .i64 n22), (.string s23), (.slice l24.1 l24.2 l24.2)])] h19).bind fun r25 =>
((some r25.1).bind getS).bind fun l26 =>
(wr base r25.2 (List.length h17) 3 [(.slice l26.1 l26.2 l26.2)]).bind fun h27 =>
((cell h27 (List.length h17) 0).bind getS).bind fun l28 =>
((cell h27 (List.length h17) 1).bind getS).bind fun l29 =>
((cell h27 (List.length h17) 2).bind (getI .i64)).bind fun n30 =>
((cell h27 (List.length h17) 3).bind getS).bind fun l31 =>
(run (Et base) 35 [(.agg #[(.slice l28.1 l28.2 l28.2), (.slice l29.1 l29.2 l29.2), (.int .i64 n30), (.slice l31.1 l31.2 l31.2)])] h27).bind fun r32 =>
((some r32.1).bind getB).bind fun b33 =>
(if (!b33) = true then
(wr base r32.2 (List.length h1) 0 [(.slice none 0 0), (.slice none 0 0), (.int .i64 (0 : Int)), (.slice none 0 0)]).bind fun h34 =>
((cell h34 (List.length h1) 0).bind getS).bind fun l35 =>
((cell h34 (List.length h1) 1).bind getS).bind fun l36 =>
((cell h34 (List.length h1) 2).bind (getI .i64)).bind fun n37 =>
((cell h34 (List.length h1) 3).bind getS).bind fun l38 =>
some ((.tuple #[(.agg #[(.slice l35.1 l35.2 l35.2), (.slice l36.1 l36.2 l36.2), (.int .i64 n37), (.slice l38.1 l38.2 l38.2)]), (.bool false)]), h34)
else
((cell r32.2 (List.length h17) 0).bind getS).bind fun l39 =>
((cell r32.2 (List.length h17) 1).bind getS).bind fun l40 =>
((cell r32.2 (List.length h17) 2).bind (getI .i64)).bind fun n41 =>
((cell r32.2 (List.length h17) 3).bind getS).bind fun l42 =>
(wr base r32.2 (List.length h1) 0 [(.slice l39.1 l39.2 l39.2), (.slice l40.1 l40.2 l40.2), (.int .i64 n41), (.slice l42.1 l42.2 l42.2)]).bind fun h43 =>
((cell h43 (List.length h1) 0).bind getS).bind fun l44 =>
((cell h43 (List.length h1) 1).bind getS).bind fun l45 =>
((cell h43 (List.length h1) 2).bind (getI .i64)).bind fun n46 =>
((cell h43 (List.length h1) 3).bind getS).bind fun l47 =>
some ((.tuple #[(.agg #[(.slice l44.1 l44.2 l44.2), (.slice l45.1 l45.2 l45.2), (.int .i64 n46), (.slice l47.1 l47.2 l47.2)]), (.bool true)]), h43))))))))) = some r) : run (Et base) 9 [(.slice v0 v0n v0n), (.agg #[(.int .i64 v1_0), (.int .i64 v1_1), (.string v1_2), (.slice v1_3 v1_3n v1_3n)])] h = some r := run_i Try.func9 (by kernel_rfl) ((f9_eq base v0 v0n v1_0 v1_1 v1_2 v1_3 v1_3n h).trans hx)
/-! laws.toInsS (gates 0) -/
noncomputable def B10_0 (base : Nat) : Body := fun l h => lay s10_0 l fun s => exCode (Et base) (run (Et base)) loopL a10_0 (subC [1, 1, 0, 1, 0, 0] (bodyC Try.f10)) s h (keepK s10_0 e10_0)
theorem B10_0_eq (base : Nat) (v0 : Option Addr) (v0n : Nat) (v3 : Option Addr) (v3n : Nat) (v4 : Int) (h : AH) : B10_0 base [some (.slice v0 v0n v0n), some (.slice v3 v3n v3n), some (.int .i64 v4)] h =
((if (decide (v4 < ((v0n : Nat) : Int))) = true then
(if 0 ≤ v4 ∧ v4 < ((v0n : Nat) : Int) then
((v0 : Option Addr)).bind fun a1 =>
((cell h a1.block (a1.off + Int.toNat v4 * 6)).bind (getI .i64)).bind fun n2 =>
((cell h a1.block ((a1.off + Int.toNat v4 * 6) + 1)).bind (getI .i64)).bind fun n3 =>
((cell h a1.block (((a1.off + Int.toNat v4 * 6) + 1) + 1)).bind (getI .i64)).bind fun n4 =>
((cell h a1.block ((((a1.off + Int.toNat v4 * 6) + 1) + 1) + 1)).bind (getI .i64)).bind fun n5 =>
((cell h a1.block (((((a1.off + Int.toNat v4 * 6) + 1) + 1) + 1) + 1)).bind (getI .i64)).bind fun n6 =>
((cell h a1.block ((((((a1.off + Int.toNat v4 * 6) + 1) + 1) + 1) + 1) + 1)).bind getStr).bind fun s7 =>
(run (Et base) 44 [(.agg #[(.int .i64 n2), (.int .i64 n3), (.int .i64 n4), (.int .i64 n5), (.int .i64 n6), (.string s7)])] h).bind fun r8 =>
((some r8.1).bind (getAgg 6)).bind fun l9 =>
((l9[0]?).bind (getI .i64)).bind fun n10 =>
((l9[1]?).bind (getI .i64)).bind fun n11 =>
((l9[2]?).bind (getI .i64)).bind fun n12 =>
((l9[3]?).bind (getI .i64)).bind fun n13 =>
((l9[4]?).bind (getI .i64)).bind fun n14 =>
((l9[5]?).bind getStr).bind fun s15 =>
(if 0 ≤ v4 ∧ v4 < ((v3n : Nat) : Int) then
((v3 : Option Addr)).bind fun a16 =>
(wr base r8.2 a16.block (a16.off + Int.toNat v4 * 6) [(.int .i64 n10), (.int .i64 n11), (.int .i64 n12), (.int .i64 n13), (.int .i64 n14), (.string s15)]).bind fun h17 =>
some (0, [some (.slice v0 v0n v0n), some (.slice v3 v3n v3n), some (.int .i64 (IntKind.wrap .i64 (v4 + (1 : Int))))], h17)
else none)
else none)
else
some (2, [some (.slice v3 v3n v3n)], h)) : Option (Nat × Slots × AH)) := by kernel_rfl
theorem f10_eq (base : Nat) (v0 : Option Addr) (v0n : Nat) (h : AH) : exFun (Et base) (run (Et base)) loopL a10 Try.f10 [(.slice v0 v0n v0n)] h =
((if ((v0n : Nat) : Int) = ((v0n : Nat) : Int) ∧ 0 ≤ ((v0n : Nat) : Int) ∧ ((v0n : Nat) : Int) * 56 ≤ 140737488355328 ∧ ((v0n : Nat) : Int) ≤ 140737488355328 then
(some (h ++ [some ⟨rep [(.int .i64 0), (.int .i64 0), (.int .i64 0), (.int .i64 0), (.int .i64 0), (.string ⟨#[]⟩)] (Int.toNat ((v0n : Nat) : Int)), 82⟩])).bind fun h1 =>
(loopL (B10_0 base) [some (.slice v0 v0n v0n), some (.slice (some ⟨(List.length h), 0, none⟩) (Int.toNat ((v0n : Nat) : Int)) (Int.toNat ((v0n : Nat) : Int))), some (.int .i64 (0 : Int))] h1).bind fun q2 =>
(if q2.1 = 2 then
((sget q2.2.1 0).bind getS).bind fun l3 =>
some ((.slice l3.1 l3.2 l3.2), q2.2.2)
else
none)
else none) : Option (Value × AH)) := by kernel_rfl
theorem r10 {base : Nat} {v0 : Option Addr} {v0n : Nat} {h : AH} {r : Value × AH} (hx :
((if ((v0n : Nat) : Int) = ((v0n : Nat) : Int) ∧ 0 ≤ ((v0n : Nat) : Int) ∧ ((v0n : Nat) : Int) * 56 ≤ 140737488355328 ∧ ((v0n : Nat) : Int) ≤ 140737488355328 then
(some (h ++ [some ⟨rep [(.int .i64 0), (.int .i64 0), (.int .i64 0), (.int .i64 0), (.int .i64 0), (.string ⟨#[]⟩)] (Int.toNat ((v0n : Nat) : Int)), 82⟩])).bind fun h1 =>
(loopL (B10_0 base) [some (.slice v0 v0n v0n), some (.slice (some ⟨(List.length h), 0, none⟩) (Int.toNat ((v0n : Nat) : Int)) (Int.toNat ((v0n : Nat) : Int))), some (.int .i64 (0 : Int))] h1).bind fun q2 =>
(if q2.1 = 2 then
((sget q2.2.1 0).bind getS).bind fun l3 =>
some ((.slice l3.1 l3.2 l3.2), q2.2.2)
else
none)
else none)) = some r) : run (Et base) 10 [(.slice v0 v0n v0n)] h = some r := run_i Try.func10 (by kernel_rfl) ((f10_eq base v0 v0n h).trans hx)
/-! laws.toTerm (gates 0) -/
theorem f11_eq (base : Nat) (v0_0 : Int) (v0_1 : Int) (v0_2 : ByteArray) (v0_3 : Option Addr) (v0_3n : Nat) (h : AH) : exFun (Et base) (run (Et base)) loopL a11 Try.f11 [(.agg #[(.int .i64 v0_0), (.int .i64 v0_1), (.string v0_2), (.slice v0_3 v0_3n v0_3n)])] h =
((some (h ++ [some ⟨[(.int .i64 v0_0), (.int .i64 v0_1), (.string v0_2), (.slice v0_3 v0_3n v0_3n)], 25⟩])).bind fun h1 =>
(some (h1 ++ [some ⟨[(.int .i64 0), (.int .i64 0), (.string ⟨#[]⟩), (.slice none 0 0)], 38⟩])).bind fun h2 =>
(some (h2 ++ [some ⟨[(.int .i64 0), (.int .i64 0), (.string ⟨#[]⟩), (.slice none 0 0)], 38⟩])).bind fun h3 =>
((cell h3 (List.length h) 0).bind (getI .i64)).bind fun n4 =>
(wr base h3 (List.length h2) 0 [(.int .i64 n4)]).bind fun h5 =>
((cell h5 (List.length h) 1).bind (getI .i64)).bind fun n6 =>
(wr base h5 (List.length h2) 1 [(.int .i64 n6)]).bind fun h7 =>
((cell h7 (List.length h) 2).bind getStr).bind fun s8 =>
(wr base h7 (List.length h2) 2 [(.string s8)]).bind fun h9 =>
((cell h9 (List.length h) 3).bind getS).bind fun l10 =>
(run (Et base) 45 [(.slice l10.1 l10.2 l10.2)] h9).bind fun r11 =>
((some r11.1).bind getS).bind fun l12 =>
(wr base r11.2 (List.length h2) 3 [(.slice l12.1 l12.2 l12.2)]).bind fun h13 =>
((cell h13 (List.length h2) 0).bind (getI .i64)).bind fun n14 =>
((cell h13 (List.length h2) 1).bind (getI .i64)).bind fun n15 =>
((cell h13 (List.length h2) 2).bind getStr).bind fun s16 =>
((cell h13 (List.length h2) 3).bind getS).bind fun l17 =>
(wr base h13 (List.length h1) 0 [(.int .i64 n14), (.int .i64 n15), (.string s16), (.slice l17.1 l17.2 l17.2)]).bind fun h18 =>
((cell h18 (List.length h1) 0).bind (getI .i64)).bind fun n19 =>
((cell h18 (List.length h1) 1).bind (getI .i64)).bind fun n20 =>
((cell h18 (List.length h1) 2).bind getStr).bind fun s21 =>
((cell h18 (List.length h1) 3).bind getS).bind fun l22 =>
some ((.agg #[(.int .i64 n19), (.int .i64 n20), (.string s21), (.slice l22.1 l22.2 l22.2)]), h18) : Option (Value × AH)) := by kernel_rfl
theorem r11 {base : Nat} {v0_0 : Int} {v0_1 : Int} {v0_2 : ByteArray} {v0_3 : Option Addr} {v0_3n : Nat} {h : AH} {r : Value × AH} (hx :
((some (h ++ [some ⟨[(.int .i64 v0_0), (.int .i64 v0_1), (.string v0_2), (.slice v0_3 v0_3n v0_3n)], 25⟩])).bind fun h1 =>
(some (h1 ++ [some ⟨[(.int .i64 0), (.int .i64 0), (.string ⟨#[]⟩), (.slice none 0 0)], 38⟩])).bind fun h2 =>
(some (h2 ++ [some ⟨[(.int .i64 0), (.int .i64 0), (.string ⟨#[]⟩), (.slice none 0 0)], 38⟩])).bind fun h3 =>
((cell h3 (List.length h) 0).bind (getI .i64)).bind fun n4 =>
(wr base h3 (List.length h2) 0 [(.int .i64 n4)]).bind fun h5 =>
((cell h5 (List.length h) 1).bind (getI .i64)).bind fun n6 =>
(wr base h5 (List.length h2) 1 [(.int .i64 n6)]).bind fun h7 =>
((cell h7 (List.length h) 2).bind getStr).bind fun s8 =>
(wr base h7 (List.length h2) 2 [(.string s8)]).bind fun h9 =>
((cell h9 (List.length h) 3).bind getS).bind fun l10 =>
(run (Et base) 45 [(.slice l10.1 l10.2 l10.2)] h9).bind fun r11 =>
((some r11.1).bind getS).bind fun l12 =>
(wr base r11.2 (List.length h2) 3 [(.slice l12.1 l12.2 l12.2)]).bind fun h13 =>
((cell h13 (List.length h2) 0).bind (getI .i64)).bind fun n14 =>
((cell h13 (List.length h2) 1).bind (getI .i64)).bind fun n15 =>
((cell h13 (List.length h2) 2).bind getStr).bind fun s16 =>
((cell h13 (List.length h2) 3).bind getS).bind fun l17 =>
(wr base h13 (List.length h1) 0 [(.int .i64 n14), (.int .i64 n15), (.string s16), (.slice l17.1 l17.2 l17.2)]).bind fun h18 =>
((cell h18 (List.length h1) 0).bind (getI .i64)).bind fun n19 =>
((cell h18 (List.length h1) 1).bind (getI .i64)).bind fun n20 =>
((cell h18 (List.length h1) 2).bind getStr).bind fun s21 =>
((cell h18 (List.length h1) 3).bind getS).bind fun l22 =>
some ((.agg #[(.int .i64 n19), (.int .i64 n20), (.string s21), (.slice l22.1 l22.2 l22.2)]), h18)) = some r) : run (Et base) 11 [(.agg #[(.int .i64 v0_0), (.int .i64 v0_1), (.string v0_2), (.slice v0_3 v0_3n v0_3n)])] h = some r := run_i Try.func11 (by kernel_rfl) ((f11_eq base v0_0 v0_1 v0_2 v0_3 v0_3n h).trans hx)
/-! impl.PlainNew (gates 6) -/
theorem f12_eq (base : Nat) (v0 : Option Addr) (v0n : Nat) (v1_0 : Int) (v1_1 : Int) (v1_2 : ByteArray) (v1_3 : Option Addr) (v1_3n : Nat) (h : AH) : exFun (Et base) (run (Et base)) loopL a12 Try.f12 [(.slice v0 v0n v0n), (.agg #[(.int .i64 v1_0), (.int .i64 v1_1), (.string v1_2), (.slice v1_3 v1_3n v1_3n)])] h =
((some (h ++ [some ⟨[(.int .i64 v1_0), (.int .i64 v1_1), (.string v1_2), (.slice v1_3 v1_3n v1_3n)], 38⟩])).bind fun h1 =>
(some (h1 ++ [some ⟨[(.slice none 0 0), (.slice none 0 0), (.int .i64 0), (.slice none 0 0)], 32⟩])).bind fun h2 =>
(app base h2 82 6 56 none 0 (rawAt h2 v0 (v0n * 6)) v0n).bind fun p3 =>
((some p3.1).bind getS).bind fun l4 =>
(gate (sameA h2 p3.2 (some ⟨(List.length h), 0, none⟩) 4)
(((cell p3.2 (List.length h) 0).bind (getI .i64)).bind fun n5 =>
((cell p3.2 (List.length h) 1).bind (getI .i64)).bind fun n6 =>
((cell p3.2 (List.length h) 2).bind getStr).bind fun s7 =>
((cell p3.2 (List.length h) 3).bind getS).bind fun l8 =>
(run (Et base) 46 [(.int .i64 (1 : Int)), (.int .i64 (0 : Int)), (.agg #[(.int .i64 n5), (.int .i64 n6), (.string s7), (.slice l8.1 l8.2 l8.2)])] p3.2).bind fun r9 =>
((some r9.1).bind (getAgg 5)).bind fun l10 =>
((l10[0]?).bind (getI .i64)).bind fun n11 =>
((l10[1]?).bind (getI .i64)).bind fun n12 =>
((l10[2]?).bind getS).bind fun l13 =>
((l10[3]?).bind getS).bind fun l14 =>
((l10[4]?).bind getS).bind fun l15 =>
(gate (sameA p3.2 r9.2 (some ⟨(List.length h), 0, none⟩) 4)
((gate (sameA h2 r9.2 (some ⟨(List.length h), 0, none⟩) 4)
(((cell r9.2 (List.length h) 0).bind (getI .i64)).bind fun n16 =>
((cell r9.2 (List.length h) 1).bind (getI .i64)).bind fun n17 =>
((cell r9.2 (List.length h) 2).bind getStr).bind fun s18 =>
((cell r9.2 (List.length h) 3).bind getS).bind fun l19 =>
(run (Et base) 47 [(.slice none 0 0), (.int .i64 (1 : Int)), (.int .i64 (1 : Int)), (.agg #[(.int .i64 n16), (.int .i64 n17), (.string s18), (.slice l19.1 l19.2 l19.2)])] r9.2).bind fun r20 =>
((some r20.1).bind getS).bind fun l21 =>
(gate (neA (some ⟨(List.length h), 0, none⟩) (List.length r20.2))
((some (r20.2 ++ [some ⟨[(.int .i64 n11), (.int .i64 n12), (.slice l13.1 l13.2 l13.2), (.slice l14.1 l14.2 l14.2), (.slice l15.1 l15.2 l15.2)], 52⟩])).bind fun h22 =>
(gate (neA (some ⟨(List.length h), 0, none⟩) (List.length h22))
((gate (neA (some ⟨(List.length h), 0, none⟩) (List.length h22))
((some (h22 ++ [some ⟨[(.slice none 0 0), (.slice none 0 0), (.int .i64 0), (.slice none 0 0)], 32⟩])).bind fun h23 =>
(wr base h23 (List.length h22) 0 [(.slice l4.1 l4.2 l4.2), (.slice (some ⟨(List.length r20.2), 0, none⟩) 1 1), (.int .i64 (2 : Int)), (.slice l21.1 l21.2 l21.2)]).bind fun h24 =>
((cell h24 (List.length h22) 0).bind getS).bind fun l25 =>
((cell h24 (List.length h22) 1).bind getS).bind fun l26 =>
((cell h24 (List.length h22) 2).bind (getI .i64)).bind fun n27 =>
((cell h24 (List.length h22) 3).bind getS).bind fun l28 =>
(run (Et base) 34 [(.agg #[(.slice l25.1 l25.2 l25.2), (.slice l26.1 l26.2 l26.2), (.int .i64 n27), (.slice l28.1 l28.2 l28.2)])] h24).bind fun r29 =>
((some r29.1).bind getB).bind fun b30 =>
(if (!b30) = true then
(wr base r29.2 (List.length h1) 0 [(.slice none 0 0), (.slice none 0 0), (.int .i64 (0 : Int)), (.slice none 0 0)]).bind fun h31 =>
((cell h31 (List.length h1) 0).bind getS).bind fun l32 =>
((cell h31 (List.length h1) 1).bind getS).bind fun l33 =>
((cell h31 (List.length h1) 2).bind (getI .i64)).bind fun n34 =>
((cell h31 (List.length h1) 3).bind getS).bind fun l35 =>
some ((.tuple #[(.agg #[(.slice l32.1 l32.2 l32.2), (.slice l33.1 l33.2 l33.2), (.int .i64 n34), (.slice l35.1 l35.2 l35.2)]), (.bool false)]), h31)
else
((cell r29.2 (List.length h22) 0).bind getS).bind fun l36 =>
((cell r29.2 (List.length h22) 1).bind getS).bind fun l37 =>
((cell r29.2 (List.length h22) 2).bind (getI .i64)).bind fun n38 =>
((cell r29.2 (List.length h22) 3).bind getS).bind fun l39 =>
(wr base r29.2 (List.length h1) 0 [(.slice l36.1 l36.2 l36.2), (.slice l37.1 l37.2 l37.2), (.int .i64 n38), (.slice l39.1 l39.2 l39.2)]).bind fun h40 =>
((cell h40 (List.length h1) 0).bind getS).bind fun l41 =>
((cell h40 (List.length h1) 1).bind getS).bind fun l42 =>
((cell h40 (List.length h1) 2).bind (getI .i64)).bind fun n43 =>
((cell h40 (List.length h1) 3).bind getS).bind fun l44 =>
some ((.tuple #[(.agg #[(.slice l41.1 l41.2 l41.2), (.slice l42.1 l42.2 l42.2), (.int .i64 n43), (.slice l44.1 l44.2 l44.2)]), (.bool true)]), h40)))))))))))))) : Option (Value × AH)) := by kernel_rfl
theorem r12 {base : Nat} {v0 : Option Addr} {v0n : Nat} {v1_0 : Int} {v1_1 : Int} {v1_2 : ByteArray} {v1_3 : Option Addr} {v1_3n : Nat} {h : AH} {r : Value × AH} (hx :
((some (h ++ [some ⟨[(.int .i64 v1_0), (.int .i64 v1_1), (.string v1_2), (.slice v1_3 v1_3n v1_3n)], 38⟩])).bind fun h1 =>
(some (h1 ++ [some ⟨[(.slice none 0 0), (.slice none 0 0), (.int .i64 0), (.slice none 0 0)], 32⟩])).bind fun h2 =>
(app base h2 82 6 56 none 0 (rawAt h2 v0 (v0n * 6)) v0n).bind fun p3 =>
((some p3.1).bind getS).bind fun l4 =>
(gate (sameA h2 p3.2 (some ⟨(List.length h), 0, none⟩) 4)
(((cell p3.2 (List.length h) 0).bind (getI .i64)).bind fun n5 =>
((cell p3.2 (List.length h) 1).bind (getI .i64)).bind fun n6 =>
((cell p3.2 (List.length h) 2).bind getStr).bind fun s7 =>
((cell p3.2 (List.length h) 3).bind getS).bind fun l8 =>
(run (Et base) 46 [(.int .i64 (1 : Int)), (.int .i64 (0 : Int)), (.agg #[(.int .i64 n5), (.int .i64 n6), (.string s7), (.slice l8.1 l8.2 l8.2)])] p3.2).bind fun r9 =>
((some r9.1).bind (getAgg 5)).bind fun l10 =>
((l10[0]?).bind (getI .i64)).bind fun n11 =>
((l10[1]?).bind (getI .i64)).bind fun n12 =>
((l10[2]?).bind getS).bind fun l13 =>
((l10[3]?).bind getS).bind fun l14 =>
((l10[4]?).bind getS).bind fun l15 =>
(gate (sameA p3.2 r9.2 (some ⟨(List.length h), 0, none⟩) 4)
((gate (sameA h2 r9.2 (some ⟨(List.length h), 0, none⟩) 4)
(((cell r9.2 (List.length h) 0).bind (getI .i64)).bind fun n16 =>
((cell r9.2 (List.length h) 1).bind (getI .i64)).bind fun n17 =>
((cell r9.2 (List.length h) 2).bind getStr).bind fun s18 =>
((cell r9.2 (List.length h) 3).bind getS).bind fun l19 =>
(run (Et base) 47 [(.slice none 0 0), (.int .i64 (1 : Int)), (.int .i64 (1 : Int)), (.agg #[(.int .i64 n16), (.int .i64 n17), (.string s18), (.slice l19.1 l19.2 l19.2)])] r9.2).bind fun r20 =>
((some r20.1).bind getS).bind fun l21 =>
(gate (neA (some ⟨(List.length h), 0, none⟩) (List.length r20.2))
((some (r20.2 ++ [some ⟨[(.int .i64 n11), (.int .i64 n12), (.slice l13.1 l13.2 l13.2), (.slice l14.1 l14.2 l14.2), (.slice l15.1 l15.2 l15.2)], 52⟩])).bind fun h22 =>
(gate (neA (some ⟨(List.length h), 0, none⟩) (List.length h22))
((gate (neA (some ⟨(List.length h), 0, none⟩) (List.length h22))
((some (h22 ++ [some ⟨[(.slice none 0 0), (.slice none 0 0), (.int .i64 0), (.slice none 0 0)], 32⟩])).bind fun h23 =>
(wr base h23 (List.length h22) 0 [(.slice l4.1 l4.2 l4.2), (.slice (some ⟨(List.length r20.2), 0, none⟩) 1 1), (.int .i64 (2 : Int)), (.slice l21.1 l21.2 l21.2)]).bind fun h24 =>
((cell h24 (List.length h22) 0).bind getS).bind fun l25 =>
((cell h24 (List.length h22) 1).bind getS).bind fun l26 =>
((cell h24 (List.length h22) 2).bind (getI .i64)).bind fun n27 =>
((cell h24 (List.length h22) 3).bind getS).bind fun l28 =>
(run (Et base) 34 [(.agg #[(.slice l25.1 l25.2 l25.2), (.slice l26.1 l26.2 l26.2), (.int .i64 n27), (.slice l28.1 l28.2 l28.2)])] h24).bind fun r29 =>
((some r29.1).bind getB).bind fun b30 =>
(if (!b30) = true then
(wr base r29.2 (List.length h1) 0 [(.slice none 0 0), (.slice none 0 0), (.int .i64 (0 : Int)), (.slice none 0 0)]).bind fun h31 =>
((cell h31 (List.length h1) 0).bind getS).bind fun l32 =>
((cell h31 (List.length h1) 1).bind getS).bind fun l33 =>
((cell h31 (List.length h1) 2).bind (getI .i64)).bind fun n34 =>
((cell h31 (List.length h1) 3).bind getS).bind fun l35 =>
some ((.tuple #[(.agg #[(.slice l32.1 l32.2 l32.2), (.slice l33.1 l33.2 l33.2), (.int .i64 n34), (.slice l35.1 l35.2 l35.2)]), (.bool false)]), h31)
else
((cell r29.2 (List.length h22) 0).bind getS).bind fun l36 =>
((cell r29.2 (List.length h22) 1).bind getS).bind fun l37 =>
((cell r29.2 (List.length h22) 2).bind (getI .i64)).bind fun n38 =>
((cell r29.2 (List.length h22) 3).bind getS).bind fun l39 =>
(wr base r29.2 (List.length h1) 0 [(.slice l36.1 l36.2 l36.2), (.slice l37.1 l37.2 l37.2), (.int .i64 n38), (.slice l39.1 l39.2 l39.2)]).bind fun h40 =>
((cell h40 (List.length h1) 0).bind getS).bind fun l41 =>
((cell h40 (List.length h1) 1).bind getS).bind fun l42 =>
((cell h40 (List.length h1) 2).bind (getI .i64)).bind fun n43 =>
((cell h40 (List.length h1) 3).bind getS).bind fun l44 =>
some ((.tuple #[(.agg #[(.slice l41.1 l41.2 l41.2), (.slice l42.1 l42.2 l42.2), (.int .i64 n43), (.slice l44.1 l44.2 l44.2)]), (.bool true)]), h40))))))))))))))) = some r) : run (Et base) 12 [(.slice v0 v0n v0n), (.agg #[(.int .i64 v1_0), (.int .i64 v1_1), (.string v1_2), (.slice v1_3 v1_3n v1_3n)])] h = some r := run_i Try.func12 (by kernel_rfl) ((f12_eq base v0 v0n v1_0 v1_1 v1_2 v1_3 v1_3n h).trans hx)
/-! laws.eqPlain (gates 0) -/
theorem f13_eq (base : Nat) (v0_0 : Option Addr) (v0_0n : Nat) (v0_1 : Option Addr) (v0_1n : Nat) (v0_2 : Int) (v0_3 : Option Addr) (v0_3n : Nat) (v1_0 : Option Addr) (v1_0n : Nat) (v1_1 : Option Addr) (v1_1n : Nat) (v1_2 : Int) (v1_3 : Option Addr) (v1_3n : Nat) (h : AH) : exFun (Et base) (run (Et base)) loopL a13 Try.f13 [(.agg #[(.slice v0_0 v0_0n v0_0n), (.slice v0_1 v0_1n v0_1n), (.int .i64 v0_2), (.slice v0_3 v0_3n v0_3n)]), (.agg #[(.slice v1_0 v1_0n v1_0n), (.slice v1_1 v1_1n v1_1n), (.int .i64 v1_2), (.slice v1_3 v1_3n v1_3n)])] h =
((some (h ++ [some ⟨[(.slice v0_0 v0_0n v0_0n), (.slice v0_1 v0_1n v0_1n), (.int .i64 v0_2), (.slice v0_3 v0_3n v0_3n)], 32⟩])).bind fun h1 =>
(some (h1 ++ [some ⟨[(.slice v1_0 v1_0n v1_0n), (.slice v1_1 v1_1n v1_1n), (.int .i64 v1_2), (.slice v1_3 v1_3n v1_3n)], 32⟩])).bind fun h2 =>
((cell h2 (List.length h) 0).bind getS).bind fun l3 =>
((cell h2 (List.length h1) 0).bind getS).bind fun l4 =>
(run (Et base) 14 [(.slice l3.1 l3.2 l3.2), (.slice l4.1 l4.2 l4.2)] h2).bind fun r5 =>
((some r5.1).bind getB).bind fun b6 =>
(if (!b6) = true then
some ((.bool false), r5.2)
else
((cell r5.2 (List.length h) 1).bind getS).bind fun l7 =>
((cell r5.2 (List.length h1) 1).bind getS).bind fun l8 =>
(run (Et base) 48 [(.slice l7.1 l7.2 l7.2), (.slice l8.1 l8.2 l8.2)] r5.2).bind fun r9 =>
((some r9.1).bind getB).bind fun b10 =>
(if (!b10) = true then
some ((.bool false), r9.2)
else
((cell r9.2 (List.length h) 2).bind (getI .i64)).bind fun n11 =>
((cell r9.2 (List.length h1) 2).bind (getI .i64)).bind fun n12 =>
(if (n11 != n12) = true then
some ((.bool false), r9.2)
else
((cell r9.2 (List.length h) 3).bind getS).bind fun l13 =>
((cell r9.2 (List.length h1) 3).bind getS).bind fun l14 =>
(run (Et base) 49 [(.slice l13.1 l13.2 l13.2), (.slice l14.1 l14.2 l14.2)] r9.2).bind fun r15 =>
((some r15.1).bind getB).bind fun b16 =>
(if (!b16) = true then
some ((.bool false), r15.2)
else
some ((.bool true), r15.2))))) : Option (Value × AH)) := by kernel_rfl
theorem r13 {base : Nat} {v0_0 : Option Addr} {v0_0n : Nat} {v0_1 : Option Addr} {v0_1n : Nat} {v0_2 : Int} {v0_3 : Option Addr} {v0_3n : Nat} {v1_0 : Option Addr} {v1_0n : Nat} {v1_1 : Option Addr} {v1_1n : Nat} {v1_2 : Int} {v1_3 : Option Addr} {v1_3n : Nat} {h : AH} {r : Value × AH} (hx :
((some (h ++ [some ⟨[(.slice v0_0 v0_0n v0_0n), (.slice v0_1 v0_1n v0_1n), (.int .i64 v0_2), (.slice v0_3 v0_3n v0_3n)], 32⟩])).bind fun h1 =>
(some (h1 ++ [some ⟨[(.slice v1_0 v1_0n v1_0n), (.slice v1_1 v1_1n v1_1n), (.int .i64 v1_2), (.slice v1_3 v1_3n v1_3n)], 32⟩])).bind fun h2 =>
((cell h2 (List.length h) 0).bind getS).bind fun l3 =>
((cell h2 (List.length h1) 0).bind getS).bind fun l4 =>
(run (Et base) 14 [(.slice l3.1 l3.2 l3.2), (.slice l4.1 l4.2 l4.2)] h2).bind fun r5 =>
((some r5.1).bind getB).bind fun b6 =>
(if (!b6) = true then
some ((.bool false), r5.2)
else
((cell r5.2 (List.length h) 1).bind getS).bind fun l7 =>
((cell r5.2 (List.length h1) 1).bind getS).bind fun l8 =>
(run (Et base) 48 [(.slice l7.1 l7.2 l7.2), (.slice l8.1 l8.2 l8.2)] r5.2).bind fun r9 =>
((some r9.1).bind getB).bind fun b10 =>
(if (!b10) = true then
some ((.bool false), r9.2)
else
((cell r9.2 (List.length h) 2).bind (getI .i64)).bind fun n11 =>
((cell r9.2 (List.length h1) 2).bind (getI .i64)).bind fun n12 =>
(if (n11 != n12) = true then
some ((.bool false), r9.2)
else
((cell r9.2 (List.length h) 3).bind getS).bind fun l13 =>
((cell r9.2 (List.length h1) 3).bind getS).bind fun l14 =>
(run (Et base) 49 [(.slice l13.1 l13.2 l13.2), (.slice l14.1 l14.2 l14.2)] r9.2).bind fun r15 =>
((some r15.1).bind getB).bind fun b16 =>
(if (!b16) = true then
some ((.bool false), r15.2)
else
some ((.bool true), r15.2)))))) = some r) : run (Et base) 13 [(.agg #[(.slice v0_0 v0_0n v0_0n), (.slice v0_1 v0_1n v0_1n), (.int .i64 v0_2), (.slice v0_3 v0_3n v0_3n)]), (.agg #[(.slice v1_0 v1_0n v1_0n), (.slice v1_1 v1_1n v1_1n), (.int .i64 v1_2), (.slice v1_3 v1_3n v1_3n)])] h = some r := run_i Try.func13 (by kernel_rfl) ((f13_eq base v0_0 v0_0n v0_1 v0_1n v0_2 v0_3 v0_3n v1_0 v1_0n v1_1 v1_1n v1_2 v1_3 v1_3n h).trans hx)
/-! laws.eqInsS (gates 0) -/
noncomputable def B14_0 (base : Nat) : Body := fun l h => lay s14_0 l fun s => exCode (Et base) (run (Et base)) loopL a14_0 (subC [1, 1, 0, 1, 0, 0] (bodyC Try.f14)) s h (keepK s14_0 e14_0)
theorem B14_0_eq (base : Nat) (v0 : Option Addr) (v0n : Nat) (v1 : Option Addr) (v1n : Nat) (v5 : Int) (h : AH) : B14_0 base [some (.slice v0 v0n v0n), some (.slice v1 v1n v1n), some (.int .i64 v5)] h =
((if (decide (v5 < ((v0n : Nat) : Int))) = true then
(if 0 ≤ v5 ∧ v5 < ((v0n : Nat) : Int) then
((v0 : Option Addr)).bind fun a1 =>
((cell h a1.block (a1.off + Int.toNat v5 * 6)).bind (getI .i64)).bind fun n2 =>
((cell h a1.block ((a1.off + Int.toNat v5 * 6) + 1)).bind (getI .i64)).bind fun n3 =>
((cell h a1.block (((a1.off + Int.toNat v5 * 6) + 1) + 1)).bind (getI .i64)).bind fun n4 =>
((cell h a1.block ((((a1.off + Int.toNat v5 * 6) + 1) + 1) + 1)).bind (getI .i64)).bind fun n5 =>
((cell h a1.block (((((a1.off + Int.toNat v5 * 6) + 1) + 1) + 1) + 1)).bind (getI .i64)).bind fun n6 =>
((cell h a1.block ((((((a1.off + Int.toNat v5 * 6) + 1) + 1) + 1) + 1) + 1)).bind getStr).bind fun s7 =>
(if 0 ≤ v5 ∧ v5 < ((v1n : Nat) : Int) then
((v1 : Option Addr)).bind fun a8 =>
((cell h a8.block (a8.off + Int.toNat v5 * 6)).bind (getI .i64)).bind fun n9 =>
((cell h a8.block ((a8.off + Int.toNat v5 * 6) + 1)).bind (getI .i64)).bind fun n10 =>
((cell h a8.block (((a8.off + Int.toNat v5 * 6) + 1) + 1)).bind (getI .i64)).bind fun n11 =>
((cell h a8.block ((((a8.off + Int.toNat v5 * 6) + 1) + 1) + 1)).bind (getI .i64)).bind fun n12 =>
((cell h a8.block (((((a8.off + Int.toNat v5 * 6) + 1) + 1) + 1) + 1)).bind (getI .i64)).bind fun n13 =>
((cell h a8.block ((((((a8.off + Int.toNat v5 * 6) + 1) + 1) + 1) + 1) + 1)).bind getStr).bind fun s14 =>
(run (Et base) 50 [(.agg #[(.int .i64 n2), (.int .i64 n3), (.int .i64 n4), (.int .i64 n5), (.int .i64 n6), (.string s7)]), (.agg #[(.int .i64 n9), (.int .i64 n10), (.int .i64 n11), (.int .i64 n12), (.int .i64 n13), (.string s14)])] h).bind fun r15 =>
((some r15.1).bind getB).bind fun b16 =>
(if (!b16) = true then
some (1, [some (.bool false)], r15.2)
else
some (0, [some (.slice v0 v0n v0n), some (.slice v1 v1n v1n), some (.int .i64 (IntKind.wrap .i64 (v5 + (1 : Int))))], r15.2))
else none)
else none)
else
some (2, [], h)) : Option (Nat × Slots × AH)) := by kernel_rfl
theorem f14_eq (base : Nat) (v0 : Option Addr) (v0n : Nat) (v1 : Option Addr) (v1n : Nat) (h : AH) : exFun (Et base) (run (Et base)) loopL a14 Try.f14 [(.slice v0 v0n v0n), (.slice v1 v1n v1n)] h =
((if (((v0n : Nat) : Int) != ((v1n : Nat) : Int)) = true then
some ((.bool false), h)
else
(loopL (B14_0 base) [some (.slice v0 v0n v0n), some (.slice v1 v1n v1n), some (.int .i64 (0 : Int))] h).bind fun q1 =>
(if q1.1 = 1 then
((sget q1.2.1 0).bind getB).bind fun b2 =>
some ((.bool b2), q1.2.2)
else
(if q1.1 = 2 then
some ((.bool true), q1.2.2)
else
none))) : Option (Value × AH)) := by kernel_rfl
theorem r14 {base : Nat} {v0 : Option Addr} {v0n : Nat} {v1 : Option Addr} {v1n : Nat} {h : AH} {r : Value × AH} (hx :
((if (((v0n : Nat) : Int) != ((v1n : Nat) : Int)) = true then
some ((.bool false), h)
else
(loopL (B14_0 base) [some (.slice v0 v0n v0n), some (.slice v1 v1n v1n), some (.int .i64 (0 : Int))] h).bind fun q1 =>
(if q1.1 = 1 then
((sget q1.2.1 0).bind getB).bind fun b2 =>
some ((.bool b2), q1.2.2)
else
(if q1.1 = 2 then
some ((.bool true), q1.2.2)
else
none)))) = some r) : run (Et base) 14 [(.slice v0 v0n v0n), (.slice v1 v1n v1n)] h = some r := run_i Try.func14 (by kernel_rfl) ((f14_eq base v0 v0n v1 v1n h).trans hx)
/-! laws.eqTerm (gates 0) -/
theorem f15_eq (base : Nat) (v0_0 : Int) (v0_1 : Int) (v0_2 : ByteArray) (v0_3 : Option Addr) (v0_3n : Nat) (v1_0 : Int) (v1_1 : Int) (v1_2 : ByteArray) (v1_3 : Option Addr) (v1_3n : Nat) (h : AH) : exFun (Et base) (run (Et base)) loopL a15 Try.f15 [(.agg #[(.int .i64 v0_0), (.int .i64 v0_1), (.string v0_2), (.slice v0_3 v0_3n v0_3n)]), (.agg #[(.int .i64 v1_0), (.int .i64 v1_1), (.string v1_2), (.slice v1_3 v1_3n v1_3n)])] h =
((some (h ++ [some ⟨[(.int .i64 v0_0), (.int .i64 v0_1), (.string v0_2), (.slice v0_3 v0_3n v0_3n)], 38⟩])).bind fun h1 =>
(some (h1 ++ [some ⟨[(.int .i64 v1_0), (.int .i64 v1_1), (.string v1_2), (.slice v1_3 v1_3n v1_3n)], 38⟩])).bind fun h2 =>
((cell h2 (List.length h) 0).bind (getI .i64)).bind fun n3 =>
((cell h2 (List.length h1) 0).bind (getI .i64)).bind fun n4 =>
(if (n3 != n4) = true then
some ((.bool false), h2)
else
((cell h2 (List.length h) 1).bind (getI .i64)).bind fun n5 =>
((cell h2 (List.length h1) 1).bind (getI .i64)).bind fun n6 =>
(if (n5 != n6) = true then
some ((.bool false), h2)
else
((cell h2 (List.length h) 2).bind getStr).bind fun s7 =>
((cell h2 (List.length h1) 2).bind getStr).bind fun s8 =>
(if (!(s7.toList == s8.toList)) = true then
some ((.bool false), h2)
else
((cell h2 (List.length h) 3).bind getS).bind fun l9 =>
((cell h2 (List.length h1) 3).bind getS).bind fun l10 =>
(run (Et base) 51 [(.slice l9.1 l9.2 l9.2), (.slice l10.1 l10.2 l10.2)] h2).bind fun r11 =>
((some r11.1).bind getB).bind fun b12 =>
(if (!b12) = true then
some ((.bool false), r11.2)
else
some ((.bool true), r11.2))))) : Option (Value × AH)) := by kernel_rfl
theorem r15 {base : Nat} {v0_0 : Int} {v0_1 : Int} {v0_2 : ByteArray} {v0_3 : Option Addr} {v0_3n : Nat} {v1_0 : Int} {v1_1 : Int} {v1_2 : ByteArray} {v1_3 : Option Addr} {v1_3n : Nat} {h : AH} {r : Value × AH} (hx :
((some (h ++ [some ⟨[(.int .i64 v0_0), (.int .i64 v0_1), (.string v0_2), (.slice v0_3 v0_3n v0_3n)], 38⟩])).bind fun h1 =>
(some (h1 ++ [some ⟨[(.int .i64 v1_0), (.int .i64 v1_1), (.string v1_2), (.slice v1_3 v1_3n v1_3n)], 38⟩])).bind fun h2 =>
((cell h2 (List.length h) 0).bind (getI .i64)).bind fun n3 =>
((cell h2 (List.length h1) 0).bind (getI .i64)).bind fun n4 =>
(if (n3 != n4) = true then
some ((.bool false), h2)
else
((cell h2 (List.length h) 1).bind (getI .i64)).bind fun n5 =>
((cell h2 (List.length h1) 1).bind (getI .i64)).bind fun n6 =>
(if (n5 != n6) = true then
some ((.bool false), h2)
else
((cell h2 (List.length h) 2).bind getStr).bind fun s7 =>
((cell h2 (List.length h1) 2).bind getStr).bind fun s8 =>
(if (!(s7.toList == s8.toList)) = true then
some ((.bool false), h2)
else
((cell h2 (List.length h) 3).bind getS).bind fun l9 =>
((cell h2 (List.length h1) 3).bind getS).bind fun l10 =>
(run (Et base) 51 [(.slice l9.1 l9.2 l9.2), (.slice l10.1 l10.2 l10.2)] h2).bind fun r11 =>
((some r11.1).bind getB).bind fun b12 =>
(if (!b12) = true then
some ((.bool false), r11.2)
else
some ((.bool true), r11.2)))))) = some r) : run (Et base) 15 [(.agg #[(.int .i64 v0_0), (.int .i64 v0_1), (.string v0_2), (.slice v0_3 v0_3n v0_3n)]), (.agg #[(.int .i64 v1_0), (.int .i64 v1_1), (.string v1_2), (.slice v1_3 v1_3n v1_3n)])] h = some r := run_i Try.func15 (by kernel_rfl) ((f15_eq base v0_0 v0_1 v0_2 v0_3 v0_3n v1_0 v1_1 v1_2 v1_3 v1_3n h).trans hx)
/-! laws.markInsS (gates 0) -/
noncomputable def B16_0 (base : Nat) : Body := fun l h => lay s16_0 l fun s => exCode (Et base) (run (Et base)) loopL a16_0 (subC [1, 0, 1, 0, 0] (bodyC Try.f16)) s h (keepK s16_0 e16_0)
theorem B16_0_eq (base : Nat) (v0 : Option Addr) (v0n : Nat) (v1 : Int) (v5 : Int) (h : AH) : B16_0 base [some (.slice v0 v0n v0n), some (.int .i64 v1), some (.int .i64 v5)] h =
((if (decide (v5 < ((v0n : Nat) : Int))) = true then
(if 0 ≤ v5 ∧ v5 < ((v0n : Nat) : Int) then
((v0 : Option Addr)).bind fun a1 =>
(wr base h a1.block ((a1.off + Int.toNat v5 * 6) + 0) [(.int .i64 v1)]).bind fun h2 =>
(if 0 ≤ v5 ∧ v5 < ((v0n : Nat) : Int) then
((v0 : Option Addr)).bind fun a3 =>
(wr base h2 a3.block ((a3.off + Int.toNat v5 * 6) + 1) [(.int .i64 (IntKind.wrap .i64 (v1 + (1 : Int))))]).bind fun h4 =>
(if 0 ≤ v5 ∧ v5 < ((v0n : Nat) : Int) then
((v0 : Option Addr)).bind fun a5 =>
(wr base h4 a5.block ((a5.off + Int.toNat v5 * 6) + 2) [(.int .i64 (IntKind.wrap .i64 ((IntKind.wrap .i64 (v1 + (1 : Int))) + (1 : Int))))]).bind fun h6 =>
(if 0 ≤ v5 ∧ v5 < ((v0n : Nat) : Int) then
((v0 : Option Addr)).bind fun a7 =>
(wr base h6 a7.block ((a7.off + Int.toNat v5 * 6) + 3) [(.int .i64 (IntKind.wrap .i64 ((IntKind.wrap .i64 ((IntKind.wrap .i64 (v1 + (1 : Int))) + (1 : Int))) + (1 : Int))))]).bind fun h8 =>
(if 0 ≤ v5 ∧ v5 < ((v0n : Nat) : Int) then
((v0 : Option Addr)).bind fun a9 =>
(wr base h8 a9.block ((a9.off + Int.toNat v5 * 6) + 4) [(.int .i64 (IntKind.wrap .i64 ((IntKind.wrap .i64 ((IntKind.wrap .i64 ((IntKind.wrap .i64 (v1 + (1 : Int))) + (1 : Int))) + (1 : Int))) + (1 : Int))))]).bind fun h10 =>
(run (Et base) 52 [(.int .i64 (IntKind.wrap .i64 ((IntKind.wrap .i64 ((IntKind.wrap .i64 ((IntKind.wrap .i64 ((IntKind.wrap .i64 (v1 + (1 : Int))) + (1 : Int))) + (1 : Int))) + (1 : Int))) + (1 : Int))))] h10).bind fun r11 =>
((some r11.1).bind getStr).bind fun s12 =>
(if 0 ≤ v5 ∧ v5 < ((v0n : Nat) : Int) then
((v0 : Option Addr)).bind fun a13 =>
(wr base r11.2 a13.block ((a13.off + Int.toNat v5 * 6) + 5) [(.string s12)]).bind fun h14 =>
some (0, [some (.slice v0 v0n v0n), some (.int .i64 (IntKind.wrap .i64 ((IntKind.wrap .i64 ((IntKind.wrap .i64 ((IntKind.wrap .i64 ((IntKind.wrap .i64 ((IntKind.wrap .i64 (v1 + (1 : Int))) + (1 : Int))) + (1 : Int))) + (1 : Int))) + (1 : Int))) + (1 : Int)))), some (.int .i64 (IntKind.wrap .i64 (v5 + (1 : Int))))], h14)
else none)
else none)
else none)
else none)
else none)
else none)
else
some (2, [some (.int .i64 v1)], h)) : Option (Nat × Slots × AH)) := by kernel_rfl
theorem f16_eq (base : Nat) (v0 : Option Addr) (v0n : Nat) (v1 : Int) (h : AH) : exFun (Et base) (run (Et base)) loopL a16 Try.f16 [(.slice v0 v0n v0n), (.int .i64 v1)] h =
((loopL (B16_0 base) [some (.slice v0 v0n v0n), some (.int .i64 v1), some (.int .i64 (0 : Int))] h).bind fun q1 =>
(if q1.1 = 2 then
((sget q1.2.1 0).bind (getI .i64)).bind fun n2 =>
some ((.int .i64 n2), q1.2.2)
else
none) : Option (Value × AH)) := by kernel_rfl
theorem r16 {base : Nat} {v0 : Option Addr} {v0n : Nat} {v1 : Int} {h : AH} {r : Value × AH} (hx :
((loopL (B16_0 base) [some (.slice v0 v0n v0n), some (.int .i64 v1), some (.int .i64 (0 : Int))] h).bind fun q1 =>
(if q1.1 = 2 then
((sget q1.2.1 0).bind (getI .i64)).bind fun n2 =>
some ((.int .i64 n2), q1.2.2)
else
none)) = some r) : run (Et base) 16 [(.slice v0 v0n v0n), (.int .i64 v1)] h = some r := run_i Try.func16 (by kernel_rfl) ((f16_eq base v0 v0n v1 h).trans hx)
/-! laws.markTerm (gates 0) -/
theorem f17_eq (base : Nat) (v0_0 : Int) (v0_1 : Int) (v0_2 : ByteArray) (v0_3 : Option Addr) (v0_3n : Nat) (v1 : Int) (h : AH) : exFun (Et base) (run (Et base)) loopL a17 Try.f17 [(.agg #[(.int .i64 v0_0), (.int .i64 v0_1), (.string v0_2), (.slice v0_3 v0_3n v0_3n)]), (.int .i64 v1)] h =
((some (h ++ [some ⟨[(.int .i64 v0_0), (.int .i64 v0_1), (.string v0_2), (.slice v0_3 v0_3n v0_3n)], 38⟩])).bind fun h1 =>
((cell h1 (List.length h) 3).bind getS).bind fun l2 =>
(run (Et base) 53 [(.slice l2.1 l2.2 l2.2), (.int .i64 v1)] h1).bind fun r3 =>
((some r3.1).bind (getI .i64)).bind fun n4 =>
some ((.int .i64 n4), r3.2) : Option (Value × AH)) := by kernel_rfl
theorem r17 {base : Nat} {v0_0 : Int} {v0_1 : Int} {v0_2 : ByteArray} {v0_3 : Option Addr} {v0_3n : Nat} {v1 : Int} {h : AH} {r : Value × AH} (hx :
((some (h ++ [some ⟨[(.int .i64 v0_0), (.int .i64 v0_1), (.string v0_2), (.slice v0_3 v0_3n v0_3n)], 38⟩])).bind fun h1 =>
((cell h1 (List.length h) 3).bind getS).bind fun l2 =>
(run (Et base) 53 [(.slice l2.1 l2.2 l2.2), (.int .i64 v1)] h1).bind fun r3 =>
((some r3.1).bind (getI .i64)).bind fun n4 =>
some ((.int .i64 n4), r3.2)) = some r) : run (Et base) 17 [(.agg #[(.int .i64 v0_0), (.int .i64 v0_1), (.string v0_2), (.slice v0_3 v0_3n v0_3n)]), (.int .i64 v1)] h = some r := run_i Try.func17 (by kernel_rfl) ((f17_eq base v0_0 v0_1 v0_2 v0_3 v0_3n v1 h).trans hx)
/-! laws.markPlain (gates 0) -/
theorem f18_eq (base : Nat) (v0_0 : Option Addr) (v0_0n : Nat) (v0_1 : Option Addr) (v0_1n : Nat) (v0_2 : Int) (v0_3 : Option Addr) (v0_3n : Nat) (v1 : Int) (h : AH) : exFun (Et base) (run (Et base)) loopL a18 Try.f18 [(.agg #[(.slice v0_0 v0_0n v0_0n), (.slice v0_1 v0_1n v0_1n), (.int .i64 v0_2), (.slice v0_3 v0_3n v0_3n)]), (.int .i64 v1)] h =
((some (h ++ [some ⟨[(.slice v0_0 v0_0n v0_0n), (.slice v0_1 v0_1n v0_1n), (.int .i64 v0_2), (.slice v0_3 v0_3n v0_3n)], 32⟩])).bind fun h1 =>
((cell h1 (List.length h) 0).bind getS).bind fun l2 =>
(run (Et base) 16 [(.slice l2.1 l2.2 l2.2), (.int .i64 v1)] h1).bind fun r3 =>
((some r3.1).bind (getI .i64)).bind fun n4 =>
((cell r3.2 (List.length h) 1).bind getS).bind fun l5 =>
(run (Et base) 54 [(.slice l5.1 l5.2 l5.2), (.int .i64 n4)] r3.2).bind fun r6 =>
((some r6.1).bind (getI .i64)).bind fun n7 =>
((cell r6.2 (List.length h) 3).bind getS).bind fun l8 =>
(run (Et base) 55 [(.slice l8.1 l8.2 l8.2), (.int .i64 n7)] r6.2).bind fun r9 =>
((some r9.1).bind (getI .i64)).bind fun n10 =>
some ((.int .i64 n10), r9.2) : Option (Value × AH)) := by kernel_rfl
theorem r18 {base : Nat} {v0_0 : Option Addr} {v0_0n : Nat} {v0_1 : Option Addr} {v0_1n : Nat} {v0_2 : Int} {v0_3 : Option Addr} {v0_3n : Nat} {v1 : Int} {h : AH} {r : Value × AH} (hx :
((some (h ++ [some ⟨[(.slice v0_0 v0_0n v0_0n), (.slice v0_1 v0_1n v0_1n), (.int .i64 v0_2), (.slice v0_3 v0_3n v0_3n)], 32⟩])).bind fun h1 =>
((cell h1 (List.length h) 0).bind getS).bind fun l2 =>
(run (Et base) 16 [(.slice l2.1 l2.2 l2.2), (.int .i64 v1)] h1).bind fun r3 =>
((some r3.1).bind (getI .i64)).bind fun n4 =>
((cell r3.2 (List.length h) 1).bind getS).bind fun l5 =>
(run (Et base) 54 [(.slice l5.1 l5.2 l5.2), (.int .i64 n4)] r3.2).bind fun r6 =>
((some r6.1).bind (getI .i64)).bind fun n7 =>
((cell r6.2 (List.length h) 3).bind getS).bind fun l8 =>
(run (Et base) 55 [(.slice l8.1 l8.2 l8.2), (.int .i64 n7)] r6.2).bind fun r9 =>
((some r9.1).bind (getI .i64)).bind fun n10 =>
some ((.int .i64 n10), r9.2)) = some r) : run (Et base) 18 [(.agg #[(.slice v0_0 v0_0n v0_0n), (.slice v0_1 v0_1n v0_1n), (.int .i64 v0_2), (.slice v0_3 v0_3n v0_3n)]), (.int .i64 v1)] h = some r := run_i Try.func18 (by kernel_rfl) ((f18_eq base v0_0 v0_0n v0_1 v0_1n v0_2 v0_3 v0_3n v1 h).trans hx)
/-! laws.heldPlain (gates 0) -/
theorem f19_eq (base : Nat) (v0_0 : Option Addr) (v0_0n : Nat) (v0_1 : Option Addr) (v0_1n : Nat) (v0_2 : Int) (v0_3 : Option Addr) (v0_3n : Nat) (v1 : Int) (h : AH) : exFun (Et base) (run (Et base)) loopL a19 Try.f19 [(.agg #[(.slice v0_0 v0_0n v0_0n), (.slice v0_1 v0_1n v0_1n), (.int .i64 v0_2), (.slice v0_3 v0_3n v0_3n)]), (.int .i64 v1)] h =
((some (h ++ [some ⟨[(.slice v0_0 v0_0n v0_0n), (.slice v0_1 v0_1n v0_1n), (.int .i64 v0_2), (.slice v0_3 v0_3n v0_3n)], 32⟩])).bind fun h1 =>
((cell h1 (List.length h) 0).bind getS).bind fun l2 =>
(run (Et base) 56 [(.slice l2.1 l2.2 l2.2), (.int .i64 v1)] h1).bind fun r3 =>
((some r3.1).bind (getI .i64)).bind fun n4 =>
(if (decide (n4 < (0 : Int))) = true then
some ((.int .i64 (-1 : Int)), r3.2)
else
((cell r3.2 (List.length h) 1).bind getS).bind fun l5 =>
(run (Et base) 57 [(.slice l5.1 l5.2 l5.2), (.int .i64 n4)] r3.2).bind fun r6 =>
((some r6.1).bind (getI .i64)).bind fun n7 =>
(if (decide (n7 < (0 : Int))) = true then
some ((.int .i64 (-1 : Int)), r6.2)
else
((cell r6.2 (List.length h) 3).bind getS).bind fun l8 =>
(run (Et base) 58 [(.slice l8.1 l8.2 l8.2), (.int .i64 n7)] r6.2).bind fun r9 =>
((some r9.1).bind (getI .i64)).bind fun n10 =>
(if (decide (n10 < (0 : Int))) = true then
some ((.int .i64 (-1 : Int)), r9.2)
else
some ((.int .i64 n10), r9.2)))) : Option (Value × AH)) := by kernel_rfl
theorem r19 {base : Nat} {v0_0 : Option Addr} {v0_0n : Nat} {v0_1 : Option Addr} {v0_1n : Nat} {v0_2 : Int} {v0_3 : Option Addr} {v0_3n : Nat} {v1 : Int} {h : AH} {r : Value × AH} (hx :
((some (h ++ [some ⟨[(.slice v0_0 v0_0n v0_0n), (.slice v0_1 v0_1n v0_1n), (.int .i64 v0_2), (.slice v0_3 v0_3n v0_3n)], 32⟩])).bind fun h1 =>
((cell h1 (List.length h) 0).bind getS).bind fun l2 =>
(run (Et base) 56 [(.slice l2.1 l2.2 l2.2), (.int .i64 v1)] h1).bind fun r3 =>
((some r3.1).bind (getI .i64)).bind fun n4 =>
(if (decide (n4 < (0 : Int))) = true then
some ((.int .i64 (-1 : Int)), r3.2)
else
((cell r3.2 (List.length h) 1).bind getS).bind fun l5 =>
(run (Et base) 57 [(.slice l5.1 l5.2 l5.2), (.int .i64 n4)] r3.2).bind fun r6 =>
((some r6.1).bind (getI .i64)).bind fun n7 =>
(if (decide (n7 < (0 : Int))) = true then
some ((.int .i64 (-1 : Int)), r6.2)
else
((cell r6.2 (List.length h) 3).bind getS).bind fun l8 =>
(run (Et base) 58 [(.slice l8.1 l8.2 l8.2), (.int .i64 n7)] r6.2).bind fun r9 =>
((some r9.1).bind (getI .i64)).bind fun n10 =>
(if (decide (n10 < (0 : Int))) = true then
some ((.int .i64 (-1 : Int)), r9.2)
else
some ((.int .i64 n10), r9.2))))) = some r) : run (Et base) 19 [(.agg #[(.slice v0_0 v0_0n v0_0n), (.slice v0_1 v0_1n v0_1n), (.int .i64 v0_2), (.slice v0_3 v0_3n v0_3n)]), (.int .i64 v1)] h = some r := run_i Try.func19 (by kernel_rfl) ((f19_eq base v0_0 v0_0n v0_1 v0_1n v0_2 v0_3 v0_3n v1 h).trans hx)
/-! laws.eqActor (gates 0) -/
theorem f24_eq (base : Nat) (v0_0 : Int) (v0_1 : Int) (v0_2 : Option Addr) (v0_2n : Nat) (v0_3 : Option Addr) (v0_3n : Nat) (v0_4 : Option Addr) (v0_4n : Nat) (v1_0 : Int) (v1_1 : Int) (v1_2 : Option Addr) (v1_2n : Nat) (v1_3 : Option Addr) (v1_3n : Nat) (v1_4 : Option Addr) (v1_4n : Nat) (h : AH) : exFun (Et base) (run (Et base)) loopL a24 Try.f24 [(.agg #[(.int .i64 v0_0), (.int .i64 v0_1), (.slice v0_2 v0_2n v0_2n), (.slice v0_3 v0_3n v0_3n), (.slice v0_4 v0_4n v0_4n)]), (.agg #[(.int .i64 v1_0), (.int .i64 v1_1), (.slice v1_2 v1_2n v1_2n), (.slice v1_3 v1_3n v1_3n), (.slice v1_4 v1_4n v1_4n)])] h =
((some (h ++ [some ⟨[(.int .i64 v0_0), (.int .i64 v0_1), (.slice v0_2 v0_2n v0_2n), (.slice v0_3 v0_3n v0_3n), (.slice v0_4 v0_4n v0_4n)], 52⟩])).bind fun h1 =>
(some (h1 ++ [some ⟨[(.int .i64 v1_0), (.int .i64 v1_1), (.slice v1_2 v1_2n v1_2n), (.slice v1_3 v1_3n v1_3n), (.slice v1_4 v1_4n v1_4n)], 52⟩])).bind fun h2 =>
((cell h2 (List.length h) 0).bind (getI .i64)).bind fun n3 =>
((cell h2 (List.length h1) 0).bind (getI .i64)).bind fun n4 =>
(if (n3 != n4) = true then
some ((.bool false), h2)
else
((cell h2 (List.length h) 1).bind (getI .i64)).bind fun n5 =>
((cell h2 (List.length h1) 1).bind (getI .i64)).bind fun n6 =>
(if (n5 != n6) = true then
some ((.bool false), h2)
else
((cell h2 (List.length h) 2).bind getS).bind fun l7 =>
((cell h2 (List.length h1) 2).bind getS).bind fun l8 =>
(run (Et base) 51 [(.slice l7.1 l7.2 l7.2), (.slice l8.1 l8.2 l8.2)] h2).bind fun r9 =>
((some r9.1).bind getB).bind fun b10 =>
(if (!b10) = true then
some ((.bool false), r9.2)
else
((cell r9.2 (List.length h) 3).bind getS).bind fun l11 =>
((cell r9.2 (List.length h1) 3).bind getS).bind fun l12 =>
(run (Et base) 51 [(.slice l11.1 l11.2 l11.2), (.slice l12.1 l12.2 l12.2)] r9.2).bind fun r13 =>
((some r13.1).bind getB).bind fun b14 =>
(if (!b14) = true then
some ((.bool false), r13.2)
else
((cell r13.2 (List.length h) 4).bind getS).bind fun l15 =>
((cell r13.2 (List.length h1) 4).bind getS).bind fun l16 =>
(run (Et base) 74 [(.slice l15.1 l15.2 l15.2), (.slice l16.1 l16.2 l16.2)] r13.2).bind fun r17 =>
((some r17.1).bind getB).bind fun b18 =>
(if (!b18) = true then
some ((.bool false), r17.2)
else
some ((.bool true), r17.2)))))) : Option (Value × AH)) := by kernel_rfl
theorem r24 {base : Nat} {v0_0 : Int} {v0_1 : Int} {v0_2 : Option Addr} {v0_2n : Nat} {v0_3 : Option Addr} {v0_3n : Nat} {v0_4 : Option Addr} {v0_4n : Nat} {v1_0 : Int} {v1_1 : Int} {v1_2 : Option Addr} {v1_2n : Nat} {v1_3 : Option Addr} {v1_3n : Nat} {v1_4 : Option Addr} {v1_4n : Nat} {h : AH} {r : Value × AH} (hx :
((some (h ++ [some ⟨[(.int .i64 v0_0), (.int .i64 v0_1), (.slice v0_2 v0_2n v0_2n), (.slice v0_3 v0_3n v0_3n), (.slice v0_4 v0_4n v0_4n)], 52⟩])).bind fun h1 =>
(some (h1 ++ [some ⟨[(.int .i64 v1_0), (.int .i64 v1_1), (.slice v1_2 v1_2n v1_2n), (.slice v1_3 v1_3n v1_3n), (.slice v1_4 v1_4n v1_4n)], 52⟩])).bind fun h2 =>
((cell h2 (List.length h) 0).bind (getI .i64)).bind fun n3 =>
((cell h2 (List.length h1) 0).bind (getI .i64)).bind fun n4 =>
(if (n3 != n4) = true then
some ((.bool false), h2)
else
((cell h2 (List.length h) 1).bind (getI .i64)).bind fun n5 =>
((cell h2 (List.length h1) 1).bind (getI .i64)).bind fun n6 =>
(if (n5 != n6) = true then
some ((.bool false), h2)
else
((cell h2 (List.length h) 2).bind getS).bind fun l7 =>
((cell h2 (List.length h1) 2).bind getS).bind fun l8 =>
(run (Et base) 51 [(.slice l7.1 l7.2 l7.2), (.slice l8.1 l8.2 l8.2)] h2).bind fun r9 =>
((some r9.1).bind getB).bind fun b10 =>
(if (!b10) = true then
some ((.bool false), r9.2)
else
((cell r9.2 (List.length h) 3).bind getS).bind fun l11 =>
((cell r9.2 (List.length h1) 3).bind getS).bind fun l12 =>
(run (Et base) 51 [(.slice l11.1 l11.2 l11.2), (.slice l12.1 l12.2 l12.2)] r9.2).bind fun r13 =>
((some r13.1).bind getB).bind fun b14 =>
(if (!b14) = true then
some ((.bool false), r13.2)
else
((cell r13.2 (List.length h) 4).bind getS).bind fun l15 =>
((cell r13.2 (List.length h1) 4).bind getS).bind fun l16 =>
(run (Et base) 74 [(.slice l15.1 l15.2 l15.2), (.slice l16.1 l16.2 l16.2)] r13.2).bind fun r17 =>
((some r17.1).bind getB).bind fun b18 =>
(if (!b18) = true then
some ((.bool false), r17.2)
else
some ((.bool true), r17.2))))))) = some r) : run (Et base) 24 [(.agg #[(.int .i64 v0_0), (.int .i64 v0_1), (.slice v0_2 v0_2n v0_2n), (.slice v0_3 v0_3n v0_3n), (.slice v0_4 v0_4n v0_4n)]), (.agg #[(.int .i64 v1_0), (.int .i64 v1_1), (.slice v1_2 v1_2n v1_2n), (.slice v1_3 v1_3n v1_3n), (.slice v1_4 v1_4n v1_4n)])] h = some r := run_i Try.func24 (by kernel_rfl) ((f24_eq base v0_0 v0_1 v0_2 v0_2n v0_3 v0_3n v0_4 v0_4n v1_0 v1_1 v1_2 v1_2n v1_3 v1_3n v1_4 v1_4n h).trans hx)
end Go.Proofs.Ytolcnednfbbnnaa.Am
