/- What each of these functions comes to on the abstract machine, one equation a function and one a loop.
Conditions: none. -/
import Derived.Test.YtkdenmdijdmnjaaTb
set_option linter.unusedVariables false
set_option maxRecDepth 100000
namespace Go.Proofs.Ytkdenmdijdmnjaa.Am
open Go Go.RowKit
noncomputable abbrev qf3 (base : Nat) (v0_0 : Option Addr) (v0_0n : Nat) (v0_1 : Option Addr) (v0_1n : Nat) (v0_2 : Int) (v0_3 : Option Addr) (v0_3n : Nat) (v1 : Int) (v2_0 : Int) (v2_1 : Int) (v2_2 : ByteArray) (v2_3 : Option Addr) (v2_3n : Nat) (h : AH) : Option (Value × AH):=
nw1 h 26 [(vL v0_0 v0_0n),(vL v0_1 v0_1n),(vI v0_2),(vL v0_3 v0_3n)] fun h1=>
nw1 h1 29 [(vI v2_0),(vI v2_1),(vT v2_2),(vL v2_3 v2_3n)] fun h2=>
c_LLIL h2 (List.length h) 0 fun l3 l4 n5 l6=>
(run (Et base) 11 [(.agg #[(vL l3.1 l3.2),(vL l4.1 l4.2),(vI n5),(vL l6.1 l6.2)]),(vI (1048576 : Int))] h2).bind fun r7=>
((some r7.1).bind (getI .i64)).bind fun n8=>
(if (decide (n8 < (0 : Int))) = true then
some ((.bool true),r7.2)
else
c_IITL r7.2 (List.length h1) 0 fun n9 n10 s11 l12=>
(run (Et base) 12 [(.agg #[(vI n9),(vI n10),(vT s11),(vL l12.1 l12.2)]),(vI n8)] r7.2).bind fun r13=>
((some r13.1).bind (getI .i64)).bind fun n14=>
(if (decide (n14 < (0 : Int))) = true then
some ((.bool true),r13.2)
else
c_LLIL r13.2 (List.length h) 0 fun l15 l16 n17 l18=>
(run (Et base) 14 [(.agg #[(vL l15.1 l15.2),(vL l16.1 l16.2),(vI n17),(vL l18.1 l18.2)])] r13.2).bind fun r19=>
gG (some r19.1) 4 fun l20=>
l_LLIL l20 fun l21 l22 n23 l24=>
(gate (sameA r13.2 r19.2 (some ⟨(List.length h1),0,none⟩) 4)
(c_IITL r19.2 (List.length h1) 0 fun n25 n26 s27 l28=>
(run (Et base) 15 [(.agg #[(vI n25),(vI n26),(vT s27),(vL l28.1 l28.2)])] r19.2).bind fun r29=>
gG (some r29.1) 4 fun l30=>
l_IITL l30 fun n31 n32 s33 l34=>
(run (Et base) 13 [(.agg #[(vL l21.1 l21.2),(vL l22.1 l22.2),(vI n23),(vL l24.1 l24.2)]),(vI v1),(.agg #[(vI n31),(vI n32),(vT s33),(vL l34.1 l34.2)])] r29.2).bind fun r35=>
(getTup 2 r35.1).bind fun l36=>
gG (l36[0]?) 4 fun l37=>
l_LLIL l37 fun l38 l39 n40 l41=>
((l36[1]?).bind getB).bind fun b42=>
(gate (neA (some ⟨(List.length h1),0,none⟩) (List.length r35.2))
((gate (neA (some ⟨(List.length h),0,none⟩) (List.length r35.2))
(nw1 r35.2 36 [(vL none 0),(vL none 0),(vI 0),(vL none 0)] fun h43=>
(wr base h43 (List.length r35.2) 0 [(vL l38.1 l38.2),(vL l39.1 l39.2),(vI n40),(vL l41.1 l41.2)]).bind fun h44=>
c_LLIL h44 (List.length h) 0 fun l45 l46 n47 l48=>
(run (Et base) 14 [(.agg #[(vL l45.1 l45.2),(vL l46.1 l46.2),(vI n47),(vL l48.1 l48.2)])] h44).bind fun r49=>
gG (some r49.1) 4 fun l50=>
l_LLIL l50 fun l51 l52 n53 l54=>
nw1 r49.2 36 [(vL none 0),(vL none 0),(vI 0),(vL none 0)] fun h55=>
(wr base h55 (List.length r49.2) 0 [(vL l51.1 l51.2),(vL l52.1 l52.2),(vI n53),(vL l54.1 l54.2)]).bind fun h56=>
c_IITL h56 (List.length h1) 0 fun n57 n58 s59 l60=>
(run (Et base) 15 [(.agg #[(vI n57),(vI n58),(vT s59),(vL l60.1 l60.2)])] h56).bind fun r61=>
gG (some r61.1) 4 fun l62=>
l_IITL l62 fun n63 n64 s65 l66=>
nw1 r61.2 42 [(vI 0),(vI 0),(vT ⟨#[]⟩),(vL none 0)] fun h67=>
(wr base h67 (List.length r61.2) 0 [(vI n63),(vI n64),(vT s65),(vL l66.1 l66.2)]).bind fun h68=>
c_LLIL h68 (List.length r49.2) 0 fun l69 l70 n71 l72=>
c_IITL h68 (List.length r61.2) 0 fun n73 n74 s75 l76=>
(run (Et base) 16 [(.agg #[(vL l69.1 l69.2),(vL l70.1 l70.2),(vI n71),(vL l72.1 l72.2)]),(vI v1),(.agg #[(vI n73),(vI n74),(vT s75),(vL l76.1 l76.2)])] h68).bind fun r77=>
(getTup 2 r77.1).bind fun l78=>
gG (l78[0]?) 4 fun l79=>
l_LLIL l79 fun l80 l81 n82 l83=>
((l78[1]?).bind getB).bind fun b84=>
nw1 r77.2 36 [(vL none 0),(vL none 0),(vI 0),(vL none 0)] fun h85=>
(wr base h85 (List.length r77.2) 0 [(vL l80.1 l80.2),(vL l81.1 l81.2),(vI n82),(vL l83.1 l83.2)]).bind fun h86=>
(c_LLIL h86 (List.length r77.2) 0 fun l88 l89 n90 l91=>
c_LLIL h86 (List.length r35.2) 0 fun l92 l93 n94 l95=>
(run (Et base) 17 [(.agg #[(vL l88.1 l88.2),(vL l89.1 l89.2),(vI n90),(vL l91.1 l91.2)]),(.agg #[(vL l92.1 l92.2),(vL l93.1 l93.2),(vI n94),(vL l95.1 l95.2)])] h86).bind fun r96=>
((some r96.1).bind getB).bind fun b97=>
(if (!b97) = true then
some (.inl ([some (vI v1),some (vP (List.length h)),some (vP (List.length h1)),some (vP (List.length r35.2)),some (.bool b42),some (vP (List.length r49.2)),some (vP (List.length r61.2)),some (vP (List.length r77.2)),some (.bool b84),some (.bool true)],r96.2))
else
some (.inl ([some (vI v1),some (vP (List.length h)),some (vP (List.length h1)),some (vP (List.length r35.2)),some (.bool b42),some (vP (List.length r49.2)),some (vP (List.length r61.2)),some (vP (List.length r77.2)),some (.bool b84),some (.bool (!(b84 == b42)))],r96.2)))).bind fun j87=>joinK j87 fun j87=>
j_IAAABAAABB j87.1 fun n98 d99 d100 d101 b102 d103 d104 d105 b106 b107=>
(if b107 = true then
some ((.bool false),j87.2)
else
c_LLIL j87.2 d103.block d103.off fun l108 l109 n110 l111=>
c_LLIL j87.2 d99.block d99.off fun l112 l113 n114 l115=>
(run (Et base) 14 [(.agg #[(vL l112.1 l112.2),(vL l113.1 l113.2),(vI n114),(vL l115.1 l115.2)])] j87.2).bind fun r116=>
gG (some r116.1) 4 fun l117=>
l_LLIL l117 fun l118 l119 n120 l121=>
(gate (sameA j87.2 r116.2 (some d103) 4)
((run (Et base) 17 [(.agg #[(vL l108.1 l108.2),(vL l109.1 l109.2),(vI n110),(vL l111.1 l111.2)]),(.agg #[(vL l118.1 l118.2),(vL l119.1 l119.2),(vI n120),(vL l121.1 l121.2)])] r116.2).bind fun r122=>
((some r122.1).bind getB).bind fun b123=>
(if (!b123) = true then
some ((.bool false),r122.2)
else
c_IITL r122.2 d104.block d104.off fun n124 n125 s126 l127=>
c_IITL r122.2 d100.block d100.off fun n128 n129 s130 l131=>
(run (Et base) 15 [(.agg #[(vI n128),(vI n129),(vT s130),(vL l131.1 l131.2)])] r122.2).bind fun r132=>
gG (some r132.1) 4 fun l133=>
l_IITL l133 fun n134 n135 s136 l137=>
(gate (sameA r122.2 r132.2 (some d104) 4)
((run (Et base) 18 [(.agg #[(vI n124),(vI n125),(vT s126),(vL l127.1 l127.2)]),(.agg #[(vI n134),(vI n135),(vT s136),(vL l137.1 l137.2)])] r132.2).bind fun r138=>
((some r138.1).bind getB).bind fun b139=>
(if (!b139) = true then
some ((.bool false),r138.2)
else
c_LLIL r138.2 d103.block d103.off fun l140 l141 n142 l143=>
(run (Et base) 19 [(.agg #[(vL l140.1 l140.2),(vL l141.1 l141.2),(vI n142),(vL l143.1 l143.2)]),(vI (1 : Int))] r138.2).bind fun r144=>
((some r144.1).bind (getI .i64)).bind fun n145=>
c_IITL r144.2 d104.block d104.off fun n146 n147 s148 l149=>
(run (Et base) 20 [(.agg #[(vI n146),(vI n147),(vT s148),(vL l149.1 l149.2)]),(vI n145)] r144.2).bind fun r150=>
((some r150.1).bind (getI .i64)).bind fun n151=>
((if (decide (n151 < (0 : Int))) = true then
some (.inl ([some (vI n98),some (vA d99),some (vA d100),some (vA d101),some (.bool b102),some (vA d105),some (.bool true)],r150.2))
else
c_LLIL r150.2 d105.block d105.off fun l153 l154 n155 l156=>
c_LLIL r150.2 d101.block d101.off fun l157 l158 n159 l160=>
(run (Et base) 17 [(.agg #[(vL l153.1 l153.2),(vL l154.1 l154.2),(vI n155),(vL l156.1 l156.2)]),(.agg #[(vL l157.1 l157.2),(vL l158.1 l158.2),(vI n159),(vL l160.1 l160.2)])] r150.2).bind fun r161=>
((some r161.1).bind getB).bind fun b162=>
(if (!b162) = true then
some (.inl ([some (vI n98),some (vA d99),some (vA d100),some (vA d101),some (.bool b102),some (vA d105),some (.bool true)],r161.2))
else
some (.inl ([some (vI n98),some (vA d99),some (vA d100),some (vA d101),some (.bool b102),some (vA d105),some (.bool (!(b106 == b102)))],r161.2))))).bind fun j152=>joinK j152 fun j152=>
j_IAAABAB j152.1 fun n163 d164 d165 d166 b167 d168 b169=>
(if b169 = true then
some ((.bool false),j152.2)
else
c_LLIL j152.2 d168.block d168.off fun l170 l171 n172 l173=>
(run (Et base) 19 [(.agg #[(vL l170.1 l170.2),(vL l171.1 l171.2),(vI n172),(vL l173.1 l173.2)]),(vI (1 : Int))] j152.2).bind fun r174=>
((some r174.1).bind (getI .i64)).bind fun n175=>
c_LLIL r174.2 d168.block d168.off fun l176 l177 n178 l179=>
(run (Et base) 21 [(.agg #[(vL l176.1 l176.2),(vL l177.1 l177.2),(vI n178),(vL l179.1 l179.2)]),(vI (1 : Int))] r174.2).bind fun r180=>
((some r180.1).bind (getI .i64)).bind fun n181=>
(if (decide (n181 < (0 : Int))) = true then
some ((.bool false),r180.2)
else
(if (n181 != n175) = true then
some ((.bool false),r180.2)
else
c_LLIL r180.2 d164.block d164.off fun l182 l183 n184 l185=>
(run (Et base) 14 [(.agg #[(vL l182.1 l182.2),(vL l183.1 l183.2),(vI n184),(vL l185.1 l185.2)])] r180.2).bind fun r186=>
gG (some r186.1) 4 fun l187=>
l_LLIL l187 fun l188 l189 n190 l191=>
(gate (sameA r180.2 r186.2 (some d165) 4)
(c_IITL r186.2 d165.block d165.off fun n192 n193 s194 l195=>
(run (Et base) 15 [(.agg #[(vI n192),(vI n193),(vT s194),(vL l195.1 l195.2)])] r186.2).bind fun r196=>
gG (some r196.1) 4 fun l197=>
l_IITL l197 fun n198 n199 s200 l201=>
(run (Et base) 16 [(.agg #[(vL l188.1 l188.2),(vL l189.1 l189.2),(vI n190),(vL l191.1 l191.2)]),(vI n163),(.agg #[(vI n198),(vI n199),(vT s200),(vL l201.1 l201.2)])] r196.2).bind fun r202=>
(getTup 2 r202.1).bind fun l203=>
gG (l203[0]?) 4 fun l204=>
l_LLIL l204 fun l205 l206 n207 l208=>
((l203[1]?).bind getB).bind fun b209=>
(gate (neA (some d165) (List.length r202.2))
((gate (neA (some d164) (List.length r202.2))
(nw1 r202.2 36 [(vL none 0),(vL none 0),(vI 0),(vL none 0)] fun h210=>
(wr base h210 (List.length r202.2) 0 [(vL l205.1 l205.2),(vL l206.1 l206.2),(vI n207),(vL l208.1 l208.2)]).bind fun h211=>
(c_LLIL h211 (List.length r202.2) 0 fun l213 l214 n215 l216=>
c_LLIL h211 d166.block d166.off fun l217 l218 n219 l220=>
(run (Et base) 17 [(.agg #[(vL l213.1 l213.2),(vL l214.1 l214.2),(vI n215),(vL l216.1 l216.2)]),(.agg #[(vL l217.1 l217.2),(vL l218.1 l218.2),(vI n219),(vL l220.1 l220.2)])] h211).bind fun r221=>
((some r221.1).bind getB).bind fun b222=>
(if (!b222) = true then
some (.inl ([some (vA d168),some (vI n175),some (.bool true)],r221.2))
else
some (.inl ([some (vA d168),some (vI n175),some (.bool (!(b209 == b167)))],r221.2)))).bind fun j212=>joinK j212 fun j212=>
j_AIB j212.1 fun d223 n224 b225=>
(if b225 = true then
some ((.bool false),j212.2)
else
c_LLIL j212.2 d223.block d223.off fun l226 l227 n228 l229=>
(run (Et base) 21 [(.agg #[(vL l226.1 l226.2),(vL l227.1 l227.2),(vI n228),(vL l229.1 l229.2)]),(vI (1 : Int))] j212.2).bind fun r230=>
((some r230.1).bind (getI .i64)).bind fun n231=>
(if (decide (n231 < (0 : Int))) = true then
some ((.bool false),r230.2)
else
(if (n231 != n224) = true then
some ((.bool false),r230.2)
else
some ((.bool true),r230.2))))))))))))))))))))))))))))
theorem r3 {base : Nat} {v0_0 : Option Addr} {v0_0n : Nat} {v0_1 : Option Addr} {v0_1n : Nat} {v0_2 : Int} {v0_3 : Option Addr} {v0_3n : Nat} {v1 : Int} {v2_0 : Int} {v2_1 : Int} {v2_2 : ByteArray} {v2_3 : Option Addr} {v2_3n : Nat} {h : AH} {r : Value × AH} (hx : qf3 base v0_0 v0_0n v0_1 v0_1n v0_2 v0_3 v0_3n v1 v2_0 v2_1 v2_2 v2_3 v2_3n h = some r) : run (Et base) 3 [(.agg #[(vL v0_0 v0_0n),(vL v0_1 v0_1n),(vI v0_2),(vL v0_3 v0_3n)]),(vI v1),(.agg #[(vI v2_0),(vI v2_1),(vT v2_2),(vL v2_3 v2_3n)])] h = some r:=run_i (an:=a3) Try.func3 (by kernel_rfl) (.trans (by kernel_rfl) hx)
theorem r11 {base : Nat} {v0_0 : Option Addr} {v0_0n : Nat} {v0_1 : Option Addr} {v0_1n : Nat} {v0_2 : Int} {v0_3 : Option Addr} {v0_3n : Nat} {v1 : Int} {h : AH} {r : Value × AH} (hx : ((some (h++[some ⟨[(.slice v0_0 v0_0n v0_0n),(.slice v0_1 v0_1n v0_1n),(.int .i64 v0_2),(.slice v0_3 v0_3n v0_3n)],26⟩])).bind fun h1=>
((cell h1 (List.length h) 0).bind getS).bind fun l2=>
(run (Et base) 53 [(.slice l2.1 l2.2 l2.2),(.int .i64 v1)] h1).bind fun r3=>
((some r3.1).bind (getI .i64)).bind fun n4=>
(if (decide (n4 < (0 : Int))) = true then
some ((.int .i64 (-1 : Int)),r3.2)
else
((cell r3.2 (List.length h) 1).bind getS).bind fun l5=>
(run (Et base) 54 [(.slice l5.1 l5.2 l5.2),(.int .i64 n4)] r3.2).bind fun r6=>
((some r6.1).bind (getI .i64)).bind fun n7=>
(if (decide (n7 < (0 : Int))) = true then
some ((.int .i64 (-1 : Int)),r6.2)
else
((cell r6.2 (List.length h) 3).bind getS).bind fun l8=>
(run (Et base) 55 [(.slice l8.1 l8.2 l8.2),(.int .i64 n7)] r6.2).bind fun r9=>
((some r9.1).bind (getI .i64)).bind fun n10=>
(if (decide (n10 < (0 : Int))) = true then
some ((.int .i64 (-1 : Int)),r9.2)
else
some ((.int .i64 n10),r9.2))))) = some r) : run (Et base) 11 [(.agg #[(vL v0_0 v0_0n),(vL v0_1 v0_1n),(vI v0_2),(vL v0_3 v0_3n)]),(vI v1)] h = some r:=run_i (an:=a11) Try.func11 (by kernel_rfl) (.trans (by kernel_rfl) hx)
theorem r12 {base : Nat} {v0_0 : Int} {v0_1 : Int} {v0_2 : ByteArray} {v0_3 : Option Addr} {v0_3n : Nat} {v1 : Int} {h : AH} {r : Value × AH} (hx : ((some (h++[some ⟨[(.int .i64 v0_0),(.int .i64 v0_1),(.string v0_2),(.slice v0_3 v0_3n v0_3n)],29⟩])).bind fun h1=>
((cell h1 (List.length h) 2).bind getStr).bind fun s2=>
(if (decide ((IntKind.wrap .i64 (v1 - (s2.size : Int))) < (0 : Int))) = true then
some ((.int .i64 (-1 : Int)),h1)
else
((cell h1 (List.length h) 3).bind getS).bind fun l3=>
(run (Et base) 56 [(.slice l3.1 l3.2 l3.2),(.int .i64 (IntKind.wrap .i64 (v1 - (s2.size : Int))))] h1).bind fun r4=>
((some r4.1).bind (getI .i64)).bind fun n5=>
(if (decide (n5 < (0 : Int))) = true then
some ((.int .i64 (-1 : Int)),r4.2)
else
some ((.int .i64 n5),r4.2)))) = some r) : run (Et base) 12 [(.agg #[(vI v0_0),(vI v0_1),(vT v0_2),(vL v0_3 v0_3n)]),(vI v1)] h = some r:=run_i (an:=a12) Try.func12 (by kernel_rfl) (.trans (by kernel_rfl) hx)
noncomputable abbrev qf13 (base : Nat) (v0_0 : Option Addr) (v0_0n : Nat) (v0_1 : Option Addr) (v0_1n : Nat) (v0_2 : Int) (v0_3 : Option Addr) (v0_3n : Nat) (v1 : Int) (v2_0 : Int) (v2_1 : Int) (v2_2 : ByteArray) (v2_3 : Option Addr) (v2_3n : Nat) (h : AH) : Option (Value × AH):=
nw1 h 36 [(vL v0_0 v0_0n),(vL v0_1 v0_1n),(vI v0_2),(vL v0_3 v0_3n)] fun h1=>
nw1 h1 42 [(vI v2_0),(vI v2_1),(vT v2_2),(vL v2_3 v2_3n)] fun h2=>
nw1 h2 36 [(vL none 0),(vL none 0),(vI 0),(vL none 0)] fun h3=>
c_LLIL h3 (List.length h) 0 fun l4 l5 n6 l7=>
(run (Et base) 57 [(.agg #[(vL l4.1 l4.2),(vL l5.1 l5.2),(vI n6),(vL l7.1 l7.2)])] h3).bind fun r8=>
gG (some r8.1) 4 fun l9=>
l_LLIL l9 fun l10 l11 n12 l13=>
nw1 r8.2 36 [(vL none 0),(vL none 0),(vI 0),(vL none 0)] fun h14=>
(wr base h14 (List.length r8.2) 0 [(vL l10.1 l10.2),(vL l11.1 l11.2),(vI n12),(vL l13.1 l13.2)]).bind fun h15=>
(c_LLIL h15 (List.length h) 0 fun l17 l18 n19 l20=>
(run (Et base) 27 [(.agg #[(vL l17.1 l17.2),(vL l18.1 l18.2),(vI n19),(vL l20.1 l20.2)])] h15).bind fun r21=>
((some r21.1).bind getB).bind fun b22=>
(if (!b22) = true then
some (.inl ([some (vI v1),some (vP (List.length h1)),some (vP (List.length h2)),some (vP (List.length r8.2)),some (.bool true)],r21.2))
else
c_IITL r21.2 (List.length h1) 0 fun n23 n24 s25 l26=>
(run (Et base) 58 [(.agg #[(vI n23),(vI n24),(vT s25),(vL l26.1 l26.2)])] r21.2).bind fun r27=>
((some r27.1).bind getB).bind fun b28=>
some (.inl ([some (vI v1),some (vP (List.length h1)),some (vP (List.length h2)),some (vP (List.length r8.2)),some (.bool (!b28))],r27.2)))).bind fun j16=>joinK j16 fun j16=>
j_IAAAB j16.1 fun n29 d30 d31 d32 b33=>
(if b33 = true then
c_LLIL j16.2 d32.block d32.off fun l34 l35 n36 l37=>
(wr base j16.2 d31.block d31.off [(vL l34.1 l34.2),(vL l35.1 l35.2),(vI n36),(vL l37.1 l37.2)]).bind fun h38=>
c_LLIL h38 d31.block d31.off fun l39 l40 n41 l42=>
some ((.tuple #[(.agg #[(vL l39.1 l39.2),(vL l40.1 l40.2),(vI n41),(vL l42.1 l42.2)]),(.bool false)]),h38)
else
c_IITL j16.2 d30.block d30.off fun n43 n44 s45 l46=>
(run (Et base) 59 [(vA d32),(vI n29),(.agg #[(vI n43),(vI n44),(vT s45),(vL l46.1 l46.2)])] j16.2).bind fun r47=>
((some r47.1).bind getB).bind fun b48=>
c_LLIL r47.2 d32.block d32.off fun l49 l50 n51 l52=>
(wr base r47.2 d31.block d31.off [(vL l49.1 l49.2),(vL l50.1 l50.2),(vI n51),(vL l52.1 l52.2)]).bind fun h53=>
c_LLIL h53 d31.block d31.off fun l54 l55 n56 l57=>
some ((.tuple #[(.agg #[(vL l54.1 l54.2),(vL l55.1 l55.2),(vI n56),(vL l57.1 l57.2)]),(.bool b48)]),h53))
theorem r13 {base : Nat} {v0_0 : Option Addr} {v0_0n : Nat} {v0_1 : Option Addr} {v0_1n : Nat} {v0_2 : Int} {v0_3 : Option Addr} {v0_3n : Nat} {v1 : Int} {v2_0 : Int} {v2_1 : Int} {v2_2 : ByteArray} {v2_3 : Option Addr} {v2_3n : Nat} {h : AH} {r : Value × AH} (hx : qf13 base v0_0 v0_0n v0_1 v0_1n v0_2 v0_3 v0_3n v1 v2_0 v2_1 v2_2 v2_3 v2_3n h = some r) : run (Et base) 13 [(.agg #[(vL v0_0 v0_0n),(vL v0_1 v0_1n),(vI v0_2),(vL v0_3 v0_3n)]),(vI v1),(.agg #[(vI v2_0),(vI v2_1),(vT v2_2),(vL v2_3 v2_3n)])] h = some r:=run_i (an:=a13) Try.func13 (by kernel_rfl) (.trans (by kernel_rfl) hx)
theorem r14 {base : Nat} {v0_0 : Option Addr} {v0_0n : Nat} {v0_1 : Option Addr} {v0_1n : Nat} {v0_2 : Int} {v0_3 : Option Addr} {v0_3n : Nat} {h : AH} {r : Value × AH} (hx : (nw1 h 26 [(vL v0_0 v0_0n),(vL v0_1 v0_1n),(vI v0_2),(vL v0_3 v0_3n)] fun h1=>
nw1 h1 36 [(vL none 0),(vL none 0),(vI 0),(vL none 0)] fun h2=>
nw1 h2 36 [(vL none 0),(vL none 0),(vI 0),(vL none 0)] fun h3=>
((cell h3 (List.length h) 0).bind getS).bind fun l4=>
(run (Et base) 60 [(vL l4.1 l4.2)] h3).bind fun r5=>
((some r5.1).bind getS).bind fun l6=>
(wr base r5.2 (List.length h2) 0 [(vL l6.1 l6.2)]).bind fun h7=>
((cell h7 (List.length h) 1).bind getS).bind fun l8=>
(run (Et base) 61 [(vL l8.1 l8.2)] h7).bind fun r9=>
((some r9.1).bind getS).bind fun l10=>
(wr base r9.2 (List.length h2) 1 [(vL l10.1 l10.2)]).bind fun h11=>
((cell h11 (List.length h) 2).bind (getI .i64)).bind fun n12=>
(wr base h11 (List.length h2) 2 [(vI n12)]).bind fun h13=>
((cell h13 (List.length h) 3).bind getS).bind fun l14=>
(run (Et base) 62 [(vL l14.1 l14.2)] h13).bind fun r15=>
((some r15.1).bind getS).bind fun l16=>
(wr base r15.2 (List.length h2) 3 [(vL l16.1 l16.2)]).bind fun h17=>
c_LLIL h17 (List.length h2) 0 fun l18 l19 n20 l21=>
(wr base h17 (List.length h1) 0 [(vL l18.1 l18.2),(vL l19.1 l19.2),(vI n20),(vL l21.1 l21.2)]).bind fun h22=>
c_LLIL h22 (List.length h1) 0 fun l23 l24 n25 l26=>
some ((.agg #[(vL l23.1 l23.2),(vL l24.1 l24.2),(vI n25),(vL l26.1 l26.2)]),h22)) = some r) : run (Et base) 14 [(.agg #[(vL v0_0 v0_0n),(vL v0_1 v0_1n),(vI v0_2),(vL v0_3 v0_3n)])] h = some r:=run_i (an:=a14) Try.func14 (by kernel_rfl) (.trans (by kernel_rfl) hx)
theorem r15 {base : Nat} {v0_0 : Int} {v0_1 : Int} {v0_2 : ByteArray} {v0_3 : Option Addr} {v0_3n : Nat} {h : AH} {r : Value × AH} (hx : (nw1 h 29 [(vI v0_0),(vI v0_1),(vT v0_2),(vL v0_3 v0_3n)] fun h1=>
nw1 h1 42 [(vI 0),(vI 0),(vT ⟨#[]⟩),(vL none 0)] fun h2=>
nw1 h2 42 [(vI 0),(vI 0),(vT ⟨#[]⟩),(vL none 0)] fun h3=>
((cell h3 (List.length h) 0).bind (getI .i64)).bind fun n4=>
(wr base h3 (List.length h2) 0 [(vI n4)]).bind fun h5=>
((cell h5 (List.length h) 1).bind (getI .i64)).bind fun n6=>
(wr base h5 (List.length h2) 1 [(vI n6)]).bind fun h7=>
((cell h7 (List.length h) 2).bind getStr).bind fun s8=>
(wr base h7 (List.length h2) 2 [(vT s8)]).bind fun h9=>
((cell h9 (List.length h) 3).bind getS).bind fun l10=>
(run (Et base) 63 [(vL l10.1 l10.2)] h9).bind fun r11=>
((some r11.1).bind getS).bind fun l12=>
(wr base r11.2 (List.length h2) 3 [(vL l12.1 l12.2)]).bind fun h13=>
c_IITL h13 (List.length h2) 0 fun n14 n15 s16 l17=>
(wr base h13 (List.length h1) 0 [(vI n14),(vI n15),(vT s16),(vL l17.1 l17.2)]).bind fun h18=>
c_IITL h18 (List.length h1) 0 fun n19 n20 s21 l22=>
some ((.agg #[(vI n19),(vI n20),(vT s21),(vL l22.1 l22.2)]),h18)) = some r) : run (Et base) 15 [(.agg #[(vI v0_0),(vI v0_1),(vT v0_2),(vL v0_3 v0_3n)])] h = some r:=run_i (an:=a15) Try.func15 (by kernel_rfl) (.trans (by kernel_rfl) hx)
noncomputable abbrev qf16 (base : Nat) (v0_0 : Option Addr) (v0_0n : Nat) (v0_1 : Option Addr) (v0_1n : Nat) (v0_2 : Int) (v0_3 : Option Addr) (v0_3n : Nat) (v1 : Int) (v2_0 : Int) (v2_1 : Int) (v2_2 : ByteArray) (v2_3 : Option Addr) (v2_3n : Nat) (h : AH) : Option (Value × AH):=
nw1 h 36 [(vL v0_0 v0_0n),(vL v0_1 v0_1n),(vI v0_2),(vL v0_3 v0_3n)] fun h1=>
nw1 h1 42 [(vI v2_0),(vI v2_1),(vT v2_2),(vL v2_3 v2_3n)] fun h2=>
nw1 h2 36 [(vL none 0),(vL none 0),(vI 0),(vL none 0)] fun h3=>
c_LLIL h3 (List.length h) 0 fun l4 l5 n6 l7=>
(run (Et base) 64 [(.agg #[(vL l4.1 l4.2),(vL l5.1 l5.2),(vI n6),(vL l7.1 l7.2)])] h3).bind fun r8=>
gG (some r8.1) 4 fun l9=>
l_LLIL l9 fun l10 l11 n12 l13=>
nw1 r8.2 36 [(vL none 0),(vL none 0),(vI 0),(vL none 0)] fun h14=>
(wr base h14 (List.length r8.2) 0 [(vL l10.1 l10.2),(vL l11.1 l11.2),(vI n12),(vL l13.1 l13.2)]).bind fun h15=>
(c_LLIL h15 (List.length h) 0 fun l17 l18 n19 l20=>
(run (Et base) 26 [(.agg #[(vL l17.1 l17.2),(vL l18.1 l18.2),(vI n19),(vL l20.1 l20.2)])] h15).bind fun r21=>
((some r21.1).bind getB).bind fun b22=>
(if (!b22) = true then
some (.inl ([some (vP (List.length h)),some (vP (List.length h2)),some (vP (List.length r8.2)),some (.bool true)],r21.2))
else
c_IITL r21.2 (List.length h1) 0 fun n23 n24 s25 l26=>
(run (Et base) 65 [(.agg #[(vI n23),(vI n24),(vT s25),(vL l26.1 l26.2)])] r21.2).bind fun r27=>
((some r27.1).bind getB).bind fun b28=>
(if (!b28) = true then
some (.inl ([some (vP (List.length h)),some (vP (List.length h2)),some (vP (List.length r8.2)),some (.bool true)],r27.2))
else
c_IITL r27.2 (List.length h1) 0 fun n29 n30 s31 l32=>
(run (Et base) 66 [(vP (List.length r8.2)),(vI v1),(.agg #[(vI n29),(vI n30),(vT s31),(vL l32.1 l32.2)])] r27.2).bind fun r33=>
((some r33.1).bind getB).bind fun b34=>
some (.inl ([some (vP (List.length h)),some (vP (List.length h2)),some (vP (List.length r8.2)),some (.bool (!b34))],r33.2))))).bind fun j16=>joinK j16 fun j16=>
j_AAAB j16.1 fun d35 d36 d37 b38=>
(if b38 = true then
c_LLIL j16.2 d35.block d35.off fun l39 l40 n41 l42=>
(run (Et base) 64 [(.agg #[(vL l39.1 l39.2),(vL l40.1 l40.2),(vI n41),(vL l42.1 l42.2)])] j16.2).bind fun r43=>
gG (some r43.1) 4 fun l44=>
l_LLIL l44 fun l45 l46 n47 l48=>
(wr base r43.2 d36.block d36.off [(vL l45.1 l45.2),(vL l46.1 l46.2),(vI n47),(vL l48.1 l48.2)]).bind fun h49=>
c_LLIL h49 d36.block d36.off fun l50 l51 n52 l53=>
some ((.tuple #[(.agg #[(vL l50.1 l50.2),(vL l51.1 l51.2),(vI n52),(vL l53.1 l53.2)]),(.bool false)]),h49)
else
c_LLIL j16.2 d37.block d37.off fun l54 l55 n56 l57=>
(wr base j16.2 d36.block d36.off [(vL l54.1 l54.2),(vL l55.1 l55.2),(vI n56),(vL l57.1 l57.2)]).bind fun h58=>
c_LLIL h58 d36.block d36.off fun l59 l60 n61 l62=>
some ((.tuple #[(.agg #[(vL l59.1 l59.2),(vL l60.1 l60.2),(vI n61),(vL l62.1 l62.2)]),(.bool true)]),h58))
theorem r16 {base : Nat} {v0_0 : Option Addr} {v0_0n : Nat} {v0_1 : Option Addr} {v0_1n : Nat} {v0_2 : Int} {v0_3 : Option Addr} {v0_3n : Nat} {v1 : Int} {v2_0 : Int} {v2_1 : Int} {v2_2 : ByteArray} {v2_3 : Option Addr} {v2_3n : Nat} {h : AH} {r : Value × AH} (hx : qf16 base v0_0 v0_0n v0_1 v0_1n v0_2 v0_3 v0_3n v1 v2_0 v2_1 v2_2 v2_3 v2_3n h = some r) : run (Et base) 16 [(.agg #[(vL v0_0 v0_0n),(vL v0_1 v0_1n),(vI v0_2),(vL v0_3 v0_3n)]),(vI v1),(.agg #[(vI v2_0),(vI v2_1),(vT v2_2),(vL v2_3 v2_3n)])] h = some r:=run_i (an:=a16) Try.func16 (by kernel_rfl) (.trans (by kernel_rfl) hx)
theorem r17 {base : Nat} {v0_0 : Option Addr} {v0_0n : Nat} {v0_1 : Option Addr} {v0_1n : Nat} {v0_2 : Int} {v0_3 : Option Addr} {v0_3n : Nat} {v1_0 : Option Addr} {v1_0n : Nat} {v1_1 : Option Addr} {v1_1n : Nat} {v1_2 : Int} {v1_3 : Option Addr} {v1_3n : Nat} {h : AH} {r : Value × AH} (hx : ((some (h++[some ⟨[(.slice v0_0 v0_0n v0_0n),(.slice v0_1 v0_1n v0_1n),(.int .i64 v0_2),(.slice v0_3 v0_3n v0_3n)],36⟩])).bind fun h1=>
(some (h1++[some ⟨[(.slice v1_0 v1_0n v1_0n),(.slice v1_1 v1_1n v1_1n),(.int .i64 v1_2),(.slice v1_3 v1_3n v1_3n)],36⟩])).bind fun h2=>
((cell h2 (List.length h) 0).bind getS).bind fun l3=>
((cell h2 (List.length h1) 0).bind getS).bind fun l4=>
(run (Et base) 67 [(.slice l3.1 l3.2 l3.2),(.slice l4.1 l4.2 l4.2)] h2).bind fun r5=>
((some r5.1).bind getB).bind fun b6=>
(if (!b6) = true then
some ((.bool false),r5.2)
else
((cell r5.2 (List.length h) 1).bind getS).bind fun l7=>
((cell r5.2 (List.length h1) 1).bind getS).bind fun l8=>
(run (Et base) 68 [(.slice l7.1 l7.2 l7.2),(.slice l8.1 l8.2 l8.2)] r5.2).bind fun r9=>
((some r9.1).bind getB).bind fun b10=>
(if (!b10) = true then
some ((.bool false),r9.2)
else
((cell r9.2 (List.length h) 2).bind (getI .i64)).bind fun n11=>
((cell r9.2 (List.length h1) 2).bind (getI .i64)).bind fun n12=>
(if (n11 != n12) = true then
some ((.bool false),r9.2)
else
((cell r9.2 (List.length h) 3).bind getS).bind fun l13=>
((cell r9.2 (List.length h1) 3).bind getS).bind fun l14=>
(run (Et base) 69 [(.slice l13.1 l13.2 l13.2),(.slice l14.1 l14.2 l14.2)] r9.2).bind fun r15=>
((some r15.1).bind getB).bind fun b16=>
(if (!b16) = true then
some ((.bool false),r15.2)
else
some ((.bool true),r15.2)))))) = some r) : run (Et base) 17 [(.agg #[(vL v0_0 v0_0n),(vL v0_1 v0_1n),(vI v0_2),(vL v0_3 v0_3n)]),(.agg #[(vL v1_0 v1_0n),(vL v1_1 v1_1n),(vI v1_2),(vL v1_3 v1_3n)])] h = some r:=run_i (an:=a17) Try.func17 (by kernel_rfl) (.trans (by kernel_rfl) hx)
theorem r18 {base : Nat} {v0_0 : Int} {v0_1 : Int} {v0_2 : ByteArray} {v0_3 : Option Addr} {v0_3n : Nat} {v1_0 : Int} {v1_1 : Int} {v1_2 : ByteArray} {v1_3 : Option Addr} {v1_3n : Nat} {h : AH} {r : Value × AH} (hx : ((some (h++[some ⟨[(.int .i64 v0_0),(.int .i64 v0_1),(.string v0_2),(.slice v0_3 v0_3n v0_3n)],42⟩])).bind fun h1=>
(some (h1++[some ⟨[(.int .i64 v1_0),(.int .i64 v1_1),(.string v1_2),(.slice v1_3 v1_3n v1_3n)],42⟩])).bind fun h2=>
((cell h2 (List.length h) 0).bind (getI .i64)).bind fun n3=>
((cell h2 (List.length h1) 0).bind (getI .i64)).bind fun n4=>
(if (n3 != n4) = true then
some ((.bool false),h2)
else
((cell h2 (List.length h) 1).bind (getI .i64)).bind fun n5=>
((cell h2 (List.length h1) 1).bind (getI .i64)).bind fun n6=>
(if (n5 != n6) = true then
some ((.bool false),h2)
else
((cell h2 (List.length h) 2).bind getStr).bind fun s7=>
((cell h2 (List.length h1) 2).bind getStr).bind fun s8=>
(if (!(s7.toList == s8.toList)) = true then
some ((.bool false),h2)
else
((cell h2 (List.length h) 3).bind getS).bind fun l9=>
((cell h2 (List.length h1) 3).bind getS).bind fun l10=>
(run (Et base) 70 [(.slice l9.1 l9.2 l9.2),(.slice l10.1 l10.2 l10.2)] h2).bind fun r11=>
((some r11.1).bind getB).bind fun b12=>
(if (!b12) = true then
some ((.bool false),r11.2)
else
some ((.bool true),r11.2)))))) = some r) : run (Et base) 18 [(.agg #[(vI v0_0),(vI v0_1),(vT v0_2),(vL v0_3 v0_3n)]),(.agg #[(vI v1_0),(vI v1_1),(vT v1_2),(vL v1_3 v1_3n)])] h = some r:=run_i (an:=a18) Try.func18 (by kernel_rfl) (.trans (by kernel_rfl) hx)
theorem r19 {base : Nat} {v0_0 : Option Addr} {v0_0n : Nat} {v0_1 : Option Addr} {v0_1n : Nat} {v0_2 : Int} {v0_3 : Option Addr} {v0_3n : Nat} {v1 : Int} {h : AH} {r : Value × AH} (hx : ((some (h++[some ⟨[(.slice v0_0 v0_0n v0_0n),(.slice v0_1 v0_1n v0_1n),(.int .i64 v0_2),(.slice v0_3 v0_3n v0_3n)],36⟩])).bind fun h1=>
((cell h1 (List.length h) 0).bind getS).bind fun l2=>
(run (Et base) 71 [(.slice l2.1 l2.2 l2.2),(.int .i64 v1)] h1).bind fun r3=>
((some r3.1).bind (getI .i64)).bind fun n4=>
((cell r3.2 (List.length h) 1).bind getS).bind fun l5=>
(run (Et base) 72 [(.slice l5.1 l5.2 l5.2),(.int .i64 n4)] r3.2).bind fun r6=>
((some r6.1).bind (getI .i64)).bind fun n7=>
((cell r6.2 (List.length h) 3).bind getS).bind fun l8=>
(run (Et base) 73 [(.slice l8.1 l8.2 l8.2),(.int .i64 n7)] r6.2).bind fun r9=>
((some r9.1).bind (getI .i64)).bind fun n10=>
some ((.int .i64 n10),r9.2)) = some r) : run (Et base) 19 [(.agg #[(vL v0_0 v0_0n),(vL v0_1 v0_1n),(vI v0_2),(vL v0_3 v0_3n)]),(vI v1)] h = some r:=run_i (an:=a19) Try.func19 (by kernel_rfl) (.trans (by kernel_rfl) hx)
theorem r20 {base : Nat} {v0_0 : Int} {v0_1 : Int} {v0_2 : ByteArray} {v0_3 : Option Addr} {v0_3n : Nat} {v1 : Int} {h : AH} {r : Value × AH} (hx : ((some (h++[some ⟨[(.int .i64 v0_0),(.int .i64 v0_1),(.string v0_2),(.slice v0_3 v0_3n v0_3n)],42⟩])).bind fun h1=>
((cell h1 (List.length h) 3).bind getS).bind fun l2=>
(run (Et base) 74 [(.slice l2.1 l2.2 l2.2),(.int .i64 v1)] h1).bind fun r3=>
((some r3.1).bind (getI .i64)).bind fun n4=>
some ((.int .i64 n4),r3.2)) = some r) : run (Et base) 20 [(.agg #[(vI v0_0),(vI v0_1),(vT v0_2),(vL v0_3 v0_3n)]),(vI v1)] h = some r:=run_i (an:=a20) Try.func20 (by kernel_rfl) (.trans (by kernel_rfl) hx)
theorem r21 {base : Nat} {v0_0 : Option Addr} {v0_0n : Nat} {v0_1 : Option Addr} {v0_1n : Nat} {v0_2 : Int} {v0_3 : Option Addr} {v0_3n : Nat} {v1 : Int} {h : AH} {r : Value × AH} (hx : ((some (h++[some ⟨[(.slice v0_0 v0_0n v0_0n),(.slice v0_1 v0_1n v0_1n),(.int .i64 v0_2),(.slice v0_3 v0_3n v0_3n)],36⟩])).bind fun h1=>
((cell h1 (List.length h) 0).bind getS).bind fun l2=>
(run (Et base) 75 [(.slice l2.1 l2.2 l2.2),(.int .i64 v1)] h1).bind fun r3=>
((some r3.1).bind (getI .i64)).bind fun n4=>
(if (decide (n4 < (0 : Int))) = true then
some ((.int .i64 (-1 : Int)),r3.2)
else
((cell r3.2 (List.length h) 1).bind getS).bind fun l5=>
(run (Et base) 76 [(.slice l5.1 l5.2 l5.2),(.int .i64 n4)] r3.2).bind fun r6=>
((some r6.1).bind (getI .i64)).bind fun n7=>
(if (decide (n7 < (0 : Int))) = true then
some ((.int .i64 (-1 : Int)),r6.2)
else
((cell r6.2 (List.length h) 3).bind getS).bind fun l8=>
(run (Et base) 77 [(.slice l8.1 l8.2 l8.2),(.int .i64 n7)] r6.2).bind fun r9=>
((some r9.1).bind (getI .i64)).bind fun n10=>
(if (decide (n10 < (0 : Int))) = true then
some ((.int .i64 (-1 : Int)),r9.2)
else
some ((.int .i64 n10),r9.2))))) = some r) : run (Et base) 21 [(.agg #[(vL v0_0 v0_0n),(vL v0_1 v0_1n),(vI v0_2),(vL v0_3 v0_3n)]),(vI v1)] h = some r:=run_i (an:=a21) Try.func21 (by kernel_rfl) (.trans (by kernel_rfl) hx)
theorem r25 {base : Nat} {v0 : Option Addr} {v0n : Nat} {v1_0 : Int} {v1_1 : Int} {v1_2 : Option Addr} {v1_2n : Nat} {v1_3 : Option Addr} {v1_3n : Nat} {v1_4 : Option Addr} {v1_4n : Nat} {h : AH} {r : Value × AH} (hx : (nw1 h 54 [(vI v1_0),(vI v1_1),(vL v1_2 v1_2n),(vL v1_3 v1_3n),(vL v1_4 v1_4n)] fun h1=>
(run (Et base) 82 [(vL v0 v0n)] h1).bind fun r2=>
((some r2.1).bind getB).bind fun b3=>
(if b3 = true then
((cell r2.2 (List.length h) 0).bind (getI .i64)).bind fun n4=>
(run (Et base) 83 [(vI n4),(vI (1 : Int)),(vI (99999 : Int))] r2.2).bind fun r5=>
((some r5.1).bind getB).bind fun b6=>
(if b6 = true then
((cell r5.2 (List.length h) 1).bind (getI .i64)).bind fun n7=>
(run (Et base) 83 [(vI n7),(vI (0 : Int)),(vI (IntKind.wrap .i64 (((v0n : Nat) : Int) - (1 : Int))))] r5.2).bind fun r8=>
((some r8.1).bind getB).bind fun b9=>
(if b9 = true then
((cell r8.2 (List.length h) 2).bind getS).bind fun l10=>
(if (((l10.2 : Nat) : Int) == (8 : Int)) = true then
((cell r8.2 (List.length h) 2).bind getS).bind fun l11=>
(run (Et base) 84 [(vL l11.1 l11.2)] r8.2).bind fun r12=>
((some r12.1).bind getB).bind fun b13=>
(if b13 = true then
((cell r12.2 (List.length h) 3).bind getS).bind fun l14=>
(if (decide (((l14.2 : Nat) : Int)≤(30 : Int))) = true then
((cell r12.2 (List.length h) 3).bind getS).bind fun l15=>
(run (Et base) 84 [(vL l15.1 l15.2)] r12.2).bind fun r16=>
((some r16.1).bind getB).bind fun b17=>
(if b17 = true then
((cell r16.2 (List.length h) 4).bind getS).bind fun l18=>
((cell r16.2 (List.length h) 0).bind (getI .i64)).bind fun n19=>
(run (Et base) 85 [(vL l18.1 l18.2),(vI n19)] r16.2).bind fun r20=>
((some r20.1).bind getB).bind fun b21=>
some ((.bool b21),r20.2)
else
some ((.bool false),r16.2))
else
some ((.bool false),r12.2))
else
some ((.bool false),r12.2))
else
some ((.bool false),r8.2))
else
some ((.bool false),r8.2))
else
some ((.bool false),r5.2))
else
some ((.bool false),r2.2))) = some r) : run (Et base) 25 [(vL v0 v0n),(.agg #[(vI v1_0),(vI v1_1),(vL v1_2 v1_2n),(vL v1_3 v1_3n),(vL v1_4 v1_4n)])] h = some r:=run_i (an:=a25) Try.func25 (by kernel_rfl) (.trans (by kernel_rfl) hx)
noncomputable def B26_1 (base : Nat) : Body:=fun l h=>lay s26_1 l fun s=>exCode (Et base) (run (Et base)) loopL a26_1 (subC [1,1,0,1,0,0,1,1,0,0,1,1,1,0,0] (bodyC Try.f26)) s h (keepK s26_1 e26_1)
noncomputable def B26_0 (base : Nat) : Body:=fun l h=>lay s26_0 l fun s=>exCode (Et base) (run (Et base)) loopL a26_0 (subC [1,1,0,1,0,0] (bodyC Try.f26)) s h (keepK s26_0 e26_0)
theorem B26_1_eq (base : Nat) (v1 : Addr) (v4 : Addr) (v31 : Option Addr) (v31n : Nat) (v32 : Int) (v33 : Int) (v67 : Option Addr) (v67n : Nat) (v68 : Int) (v69 : Int) (h : AH) : B26_1 base [some (vA v1),some (vA v4),some (vL v31 v31n),some (vI v32),some (vI v33),some (vL v67 v67n),some (vI v68),some (vI v69)] h =
((if (decide (v69 < v68)) = true then
(if 0≤v69∧v69 < ((v67n : Nat) : Int) then
((v67 : Option Addr)).bind fun a1=>
((cell h a1.block (a1.off + Int.toNat v69 * 1)).bind (getI .i64)).bind fun n2=>
(run (Et base) 87 [(vA v1),(vI n2)] h).bind fun r3=>
((some r3.1).bind (getI .i64)).bind fun n4=>
((if (decide (n4 ≥ (0 : Int))) = true then
((cell r3.2 v1.block (v1.off + 1)).bind getS).bind fun l6=>
(if 0≤n4∧n4 < ((l6.2 : Nat) : Int) then
((l6.1 : Option Addr)).bind fun a7=>
((cell r3.2 a7.block ((a7.off + Int.toNat n4 * 5) + 4)).bind getS).bind fun l8=>
((cell r3.2 v4.block (v4.off + 0)).bind (getI .i64)).bind fun n9=>
(run (Et base) 88 [(vL l8.1 l8.2),(vI n9)] r3.2).bind fun r10=>
((some r10.1).bind getB).bind fun b11=>
some (.inl ([some (vA v1),some (vA v4),some (vL v31 v31n),some (vI v32),some (vI v33),some (vL v67 v67n),some (vI v68),some (vI v69),some (.bool (!b11))],r10.2))
else none)
else
some (.inl ([some (vA v1),some (vA v4),some (vL v31 v31n),some (vI v32),some (vI v33),some (vL v67 v67n),some (vI v68),some (vI v69),some (.bool false)],r3.2)))).bind fun j5=>joinK j5 fun j5=>
j_AALIILIIB j5.1 fun d12 d13 l14 n15 n16 l17 n18 n19 b20=>
(if b20 = true then
some (1,[some (.bool false)],j5.2)
else
some (0,[some (vA d12),some (vA d13),some (vL l14.1 l14.2),some (vI n15),some (vI n16),some (vL l17.1 l17.2),some (vI n18),some (vI (IntKind.wrap .i64 (n19 + (1 : Int))))],j5.2))
else none)
else
some (4,[some (vA v1),some (vL v31 v31n),some (vI v32),some (vI v33)],h)) : Option (Nat × Slots × AH)):=by kernel_rfl
theorem B26_0_eq (base : Nat) (v1 : Addr) (v31 : Option Addr) (v31n : Nat) (v32 : Int) (v33 : Int) (h : AH) : B26_0 base [some (vA v1),some (vL v31 v31n),some (vI v32),some (vI v33)] h =
((if (decide (v33 < v32)) = true then
(if 0≤v33∧v33 < ((v31n : Nat) : Int) then
((v31 : Option Addr)).bind fun a1=>
c_IILLL h a1.block (a1.off + Int.toNat v33 * 5) fun n2 n3 l4 l5 l6=>
nw1 h 54 [(vI 0),(vI 0),(vL none 0),(vL none 0),(vL none 0)] fun h7=>
(wr base h7 (List.length h) 0 [(vI n2),(vI n3),(vL l4.1 l4.2),(vL l5.1 l5.2),(vL l6.1 l6.2)]).bind fun h8=>
(((cell h8 v1.block (v1.off + 0)).bind getS).bind fun l10=>
c_IILLL h8 (List.length h) 0 fun n11 n12 l13 l14 l15=>
(run (Et base) 25 [(vL l10.1 l10.2),(.agg #[(vI n11),(vI n12),(vL l13.1 l13.2),(vL l14.1 l14.2),(vL l15.1 l15.2)])] h8).bind fun r16=>
((some r16.1).bind getB).bind fun b17=>
(if (!b17) = true then
some (.inl ([some (vA v1),some (vP (List.length h)),some (vL v31 v31n),some (vI v32),some (vI v33),some (.bool true)],r16.2))
else
((cell r16.2 (List.length h) 0).bind (getI .i64)).bind fun n18=>
((cell r16.2 v1.block (v1.off + 2)).bind (getI .i64)).bind fun n19=>
(if (decide (n18 ≥ n19)) = true then
some (.inl ([some (vA v1),some (vP (List.length h)),some (vL v31 v31n),some (vI v32),some (vI v33),some (.bool true)],r16.2))
else
(if (decide (v33 > (0 : Int))) = true then
((cell r16.2 v1.block (v1.off + 1)).bind getS).bind fun l20=>
(if 0≤(IntKind.wrap .i64 (v33 - (1 : Int)))∧(IntKind.wrap .i64 (v33 - (1 : Int))) < ((l20.2 : Nat) : Int) then
((l20.1 : Option Addr)).bind fun a21=>
((cell r16.2 a21.block ((a21.off + Int.toNat (IntKind.wrap .i64 (v33 - (1 : Int))) * 5) + 0)).bind (getI .i64)).bind fun n22=>
((cell r16.2 (List.length h) 0).bind (getI .i64)).bind fun n23=>
some (.inl ([some (vA v1),some (vP (List.length h)),some (vL v31 v31n),some (vI v32),some (vI v33),some (.bool (decide (n22 ≥ n23)))],r16.2))
else none)
else
some (.inl ([some (vA v1),some (vP (List.length h)),some (vL v31 v31n),some (vI v32),some (vI v33),some (.bool false)],r16.2)))))).bind fun j9=>joinK j9 fun j9=>
j_AALIIB j9.1 fun d24 d25 l26 n27 n28 b29=>
(if b29 = true then
some (1,[some (.bool false)],j9.2)
else
((cell j9.2 d25.block (d25.off + 4)).bind getS).bind fun l30=>
(loopL (B26_1 base) [some (vA d24),some (vA d25),some (vL l26.1 l26.2),some (vI n27),some (vI n28),some (vL l30.1 l30.2),some (vI ((l30.2 : Nat) : Int)),some (vI (0 : Int))] j9.2).bind fun q31=>
(if q31.1 = 1 then
((sget q31.2.1 0).bind getB).bind fun b32=>
some (1,[some (.bool b32)],q31.2.2)
else
(if q31.1 = 4 then
j_ALII q31.2.1 fun d33 l34 n35 n36=>
some (0,[some (vA d33),some (vL l34.1 l34.2),some (vI n35),some (vI (IntKind.wrap .i64 (n36 + (1 : Int))))],q31.2.2)
else
none)))
else none)
else
some (2,[],h)) : Option (Nat × Slots × AH)):=by kernel_rfl
theorem r26 {base : Nat} {v0_0 : Option Addr} {v0_0n : Nat} {v0_1 : Option Addr} {v0_1n : Nat} {v0_2 : Int} {v0_3 : Option Addr} {v0_3n : Nat} {h : AH} {r : Value × AH} (hx : (nw1 h 36 [(vL v0_0 v0_0n),(vL v0_1 v0_1n),(vI v0_2),(vL v0_3 v0_3n)] fun h1=>
(((cell h1 (List.length h) 0).bind getS).bind fun l3=>
(run (Et base) 82 [(vL l3.1 l3.2)] h1).bind fun r4=>
((some r4.1).bind getB).bind fun b5=>
(if (!b5) = true then
some (.inl ([some (vP (List.length h)),some (.bool true)],r4.2))
else
((cell r4.2 (List.length h) 1).bind getS).bind fun l6=>
(if (decide (((l6.2 : Nat) : Int) > (20 : Int))) = true then
some (.inl ([some (vP (List.length h)),some (.bool true)],r4.2))
else
((cell r4.2 (List.length h) 2).bind (getI .i64)).bind fun n7=>
(run (Et base) 83 [(vI n7),(vI (1 : Int)),(vI (90000 : Int))] r4.2).bind fun r8=>
((some r8.1).bind getB).bind fun b9=>
(if (!b9) = true then
some (.inl ([some (vP (List.length h)),some (.bool true)],r8.2))
else
((cell r8.2 (List.length h) 3).bind getS).bind fun l10=>
(run (Et base) 86 [(vL l10.1 l10.2)] r8.2).bind fun r11=>
((some r11.1).bind getB).bind fun b12=>
some (.inl ([some (vP (List.length h)),some (.bool (!b12))],r11.2)))))).bind fun j2=>joinK j2 fun j2=>
j_AB j2.1 fun d13 b14=>
(if b14 = true then
some ((.bool false),j2.2)
else
((cell j2.2 d13.block (d13.off + 1)).bind getS).bind fun l15=>
(loopL (B26_0 base) [some (vA d13),some (vL l15.1 l15.2),some (vI ((l15.2 : Nat) : Int)),some (vI (0 : Int))] j2.2).bind fun q16=>
(if q16.1 = 1 then
((sget q16.2.1 0).bind getB).bind fun b17=>
some ((.bool b17),q16.2.2)
else
(if q16.1 = 2 then
some ((.bool true),q16.2.2)
else
none)))) = some r) : run (Et base) 26 [(.agg #[(vL v0_0 v0_0n),(vL v0_1 v0_1n),(vI v0_2),(vL v0_3 v0_3n)])] h = some r:=run_i (an:=a26) Try.func26 (by kernel_rfl) (.trans (by kernel_rfl) hx)
noncomputable def B27_0 (base : Nat) : Body:=fun l h=>lay s27_0 l fun s=>exCode (Et base) (run (Et base)) loopL a27_0 (subC [1,1,0,1,0,0] (bodyC Try.f27)) s h (keepK s27_0 e27_0)
theorem B27_0_eq (base : Nat) (v1 : Addr) (v3 : Int) (h : AH) : B27_0 base [some (vA v1),some (vI v3)] h =
(((cell h v1.block (v1.off + 1)).bind getS).bind fun l1=>
(if (decide (v3 < ((l1.2 : Nat) : Int))) = true then
((cell h v1.block (v1.off + 1)).bind getS).bind fun l2=>
(if 0≤v3∧v3 < ((l2.2 : Nat) : Int) then
((l2.1 : Option Addr)).bind fun a3=>
c_IILLL h a3.block (a3.off + Int.toNat v3 * 5) fun n4 n5 l6 l7 l8=>
nw1 h 54 [(vI 0),(vI 0),(vL none 0),(vL none 0),(vL none 0)] fun h9=>
(wr base h9 (List.length h) 0 [(vI n4),(vI n5),(vL l6.1 l6.2),(vL l7.1 l7.2),(vL l8.1 l8.2)]).bind fun h10=>
(((cell h10 v1.block (v1.off + 0)).bind getS).bind fun l12=>
c_IILLL h10 (List.length h) 0 fun n13 n14 l15 l16 l17=>
(run (Et base) 92 [(vL l12.1 l12.2),(.agg #[(vI n13),(vI n14),(vL l15.1 l15.2),(vL l16.1 l16.2),(vL l17.1 l17.2)])] h10).bind fun r18=>
((some r18.1).bind getB).bind fun b19=>
(if (!b19) = true then
some (.inl ([some (vA v1),some (vI v3),some (.bool true)],r18.2))
else
((cell r18.2 (List.length h) 0).bind (getI .i64)).bind fun n20=>
((cell r18.2 v1.block (v1.off + 2)).bind (getI .i64)).bind fun n21=>
(if (decide (n20 ≥ n21)) = true then
some (.inl ([some (vA v1),some (vI v3),some (.bool true)],r18.2))
else
(if (decide (v3 > (0 : Int))) = true then
((cell r18.2 v1.block (v1.off + 1)).bind getS).bind fun l22=>
(if 0≤(IntKind.wrap .i64 (v3 - (1 : Int)))∧(IntKind.wrap .i64 (v3 - (1 : Int))) < ((l22.2 : Nat) : Int) then
((l22.1 : Option Addr)).bind fun a23=>
((cell r18.2 a23.block ((a23.off + Int.toNat (IntKind.wrap .i64 (v3 - (1 : Int))) * 5) + 0)).bind (getI .i64)).bind fun n24=>
((cell r18.2 (List.length h) 0).bind (getI .i64)).bind fun n25=>
(if (decide (n24 ≥ n25)) = true then
some (.inl ([some (vA v1),some (vI v3),some (.bool true)],r18.2))
else
c_LLIL r18.2 v1.block v1.off fun l26 l27 n28 l29=>
(run (Et base) 93 [(.agg #[(vL l26.1 l26.2),(vL l27.1 l27.2),(vI n28),(vL l29.1 l29.2)]),(vI v3)] r18.2).bind fun r30=>
((some r30.1).bind getB).bind fun b31=>
some (.inl ([some (vA v1),some (vI v3),some (.bool (!b31))],r30.2)))
else none)
else
c_LLIL r18.2 v1.block v1.off fun l32 l33 n34 l35=>
(run (Et base) 93 [(.agg #[(vL l32.1 l32.2),(vL l33.1 l33.2),(vI n34),(vL l35.1 l35.2)]),(vI v3)] r18.2).bind fun r36=>
((some r36.1).bind getB).bind fun b37=>
some (.inl ([some (vA v1),some (vI v3),some (.bool (!b37))],r36.2)))))).bind fun j11=>joinK j11 fun j11=>
j_AIB j11.1 fun d38 n39 b40=>
(if b40 = true then
some (1,[some (.bool false)],j11.2)
else
some (0,[some (vA d38),some (vI (IntKind.wrap .i64 (n39 + (1 : Int))))],j11.2))
else none)
else
some (2,[],h)) : Option (Nat × Slots × AH)):=by kernel_rfl
theorem r27 {base : Nat} {v0_0 : Option Addr} {v0_0n : Nat} {v0_1 : Option Addr} {v0_1n : Nat} {v0_2 : Int} {v0_3 : Option Addr} {v0_3n : Nat} {h : AH} {r : Value × AH} (hx : (nw1 h 36 [(vL v0_0 v0_0n),(vL v0_1 v0_1n),(vI v0_2),(vL v0_3 v0_3n)] fun h1=>
(((cell h1 (List.length h) 0).bind getS).bind fun l3=>
(run (Et base) 89 [(vL l3.1 l3.2)] h1).bind fun r4=>
((some r4.1).bind getB).bind fun b5=>
(if (!b5) = true then
some (.inl ([some (vP (List.length h)),some (.bool true)],r4.2))
else
((cell r4.2 (List.length h) 2).bind (getI .i64)).bind fun n6=>
(run (Et base) 90 [(vI n6),(vI (1 : Int)),(vI (90000 : Int))] r4.2).bind fun r7=>
((some r7.1).bind getB).bind fun b8=>
(if (!b8) = true then
some (.inl ([some (vP (List.length h)),some (.bool true)],r7.2))
else
((cell r7.2 (List.length h) 1).bind getS).bind fun l9=>
(if (decide (((l9.2 : Nat) : Int) > (20 : Int))) = true then
some (.inl ([some (vP (List.length h)),some (.bool true)],r7.2))
else
((cell r7.2 (List.length h) 3).bind getS).bind fun l10=>
(run (Et base) 91 [(vL l10.1 l10.2)] r7.2).bind fun r11=>
((some r11.1).bind getB).bind fun b12=>
some (.inl ([some (vP (List.length h)),some (.bool (!b12))],r11.2)))))).bind fun j2=>joinK j2 fun j2=>
j_AB j2.1 fun d13 b14=>
(if b14 = true then
some ((.bool false),j2.2)
else
(loopL (B27_0 base) [some (vA d13),some (vI (0 : Int))] j2.2).bind fun q15=>
(if q15.1 = 1 then
((sget q15.2.1 0).bind getB).bind fun b16=>
some ((.bool b16),q15.2.2)
else
(if q15.1 = 2 then
some ((.bool true),q15.2.2)
else
none)))) = some r) : run (Et base) 27 [(.agg #[(vL v0_0 v0_0n),(vL v0_1 v0_1n),(vI v0_2),(vL v0_3 v0_3n)])] h = some r:=run_i (an:=a27) Try.func27 (by kernel_rfl) (.trans (by kernel_rfl) hx)
noncomputable def B33_0 (base : Nat) : Body:=fun l h=>lay s33_0 l fun s=>exCode (Et base) (run (Et base)) loopL a33_0 (subC [1,1,0,1,0,0] (bodyC Try.f33)) s h (keepK s33_0 e33_0)
theorem B33_0_eq (base : Nat) (v0 : Option Addr) (v0n : Nat) (v3 : Option Addr) (v3n : Nat) (v4 : Int) (h : AH) : B33_0 base [some (vL v0 v0n),some (vL v3 v3n),some (vI v4)] h =
((if (decide (v4 < ((v0n : Nat) : Int))) = true then
(if 0≤v4∧v4 < ((v0n : Nat) : Int) then
((v0 : Option Addr)).bind fun a1=>
((cell h a1.block (a1.off + Int.toNat v4 * 1)).bind (getI .i64)).bind fun n2=>
(if 0≤v4∧v4 < ((v3n : Nat) : Int) then
((v3 : Option Addr)).bind fun a3=>
(wr base h a3.block (a3.off + Int.toNat v4 * 1) [(.int .i64 n2)]).bind fun h4=>
some (0,[some (.slice v0 v0n v0n),some (.slice v3 v3n v3n),some (.int .i64 (IntKind.wrap .i64 (v4 + (1 : Int))))],h4)
else none)
else none)
else
some (2,[some (.slice v3 v3n v3n)],h)) : Option (Nat × Slots × AH)):=by kernel_rfl
theorem r33 {base : Nat} {v0 : Option Addr} {v0n : Nat} {h : AH} {r : Value × AH} (hx : ((if ((v0n : Nat) : Int) = ((v0n : Nat) : Int)∧0≤((v0n : Nat) : Int)∧((v0n : Nat) : Int) * 8≤140737488355328∧((v0n : Nat) : Int)≤140737488355328 then
(some (h++[some ⟨rep [(.int .i64 0)] (Int.toNat ((v0n : Nat) : Int)),3⟩])).bind fun h1=>
(loopL (B33_0 base) [some (.slice v0 v0n v0n),some (.slice (some ⟨(List.length h),0,none⟩) (Int.toNat ((v0n : Nat) : Int)) (Int.toNat ((v0n : Nat) : Int))),some (.int .i64 (0 : Int))] h1).bind fun q2=>
(if q2.1 = 2 then
((sget q2.2.1 0).bind getS).bind fun l3=>
some ((.slice l3.1 l3.2 l3.2),q2.2.2)
else
none)
else none)) = some r) : run (Et base) 33 [(vL v0 v0n)] h = some r:=run_i (an:=a33) Try.func33 (by kernel_rfl) (.trans (by kernel_rfl) hx)
noncomputable def B37_0 (base : Nat) : Body:=fun l h=>lay s37_0 l fun s=>exCode (Et base) (run (Et base)) loopL a37_0 (subC [1,1,0,1,0,0] (bodyC Try.f37)) s h (keepK s37_0 e37_0)
theorem B37_0_eq (base : Nat) (v0 : Option Addr) (v0n : Nat) (v1 : Option Addr) (v1n : Nat) (v5 : Int) (h : AH) : B37_0 base [some (vL v0 v0n),some (vL v1 v1n),some (vI v5)] h =
((if (decide (v5 < ((v0n : Nat) : Int))) = true then
(if 0≤v5∧v5 < ((v0n : Nat) : Int) then
((v0 : Option Addr)).bind fun a1=>
((cell h a1.block (a1.off + Int.toNat v5 * 1)).bind (getI .i64)).bind fun n2=>
(if 0≤v5∧v5 < ((v1n : Nat) : Int) then
((v1 : Option Addr)).bind fun a3=>
((cell h a3.block (a3.off + Int.toNat v5 * 1)).bind (getI .i64)).bind fun n4=>
(if (n2 != n4) = true then
some (1,[some (.bool false)],h)
else
some (0,[some (.slice v0 v0n v0n),some (.slice v1 v1n v1n),some (.int .i64 (IntKind.wrap .i64 (v5 + (1 : Int))))],h))
else none)
else none)
else
some (2,[],h)) : Option (Nat × Slots × AH)):=by kernel_rfl
theorem r37 {base : Nat} {v0 : Option Addr} {v0n : Nat} {v1 : Option Addr} {v1n : Nat} {h : AH} {r : Value × AH} (hx : ((if (((v0n : Nat) : Int) != ((v1n : Nat) : Int)) = true then
some ((.bool false),h)
else
(loopL (B37_0 base) [some (.slice v0 v0n v0n),some (.slice v1 v1n v1n),some (.int .i64 (0 : Int))] h).bind fun q1=>
(if q1.1 = 1 then
((sget q1.2.1 0).bind getB).bind fun b2=>
some ((.bool b2),q1.2.2)
else
(if q1.1 = 2 then
some ((.bool true),q1.2.2)
else
none)))) = some r) : run (Et base) 37 [(vL v0 v0n),(vL v1 v1n)] h = some r:=run_i (an:=a37) Try.func37 (by kernel_rfl) (.trans (by kernel_rfl) hx)
noncomputable def B42_0 (base : Nat) : Body:=fun l h=>lay s42_0 l fun s=>exCode (Et base) (run (Et base)) loopL a42_0 (subC [1,0,1,0,0] (bodyC Try.f42)) s h (keepK s42_0 e42_0)
theorem B42_0_eq (base : Nat) (v0 : Option Addr) (v0n : Nat) (v1 : Int) (v5 : Int) (h : AH) : B42_0 base [some (vL v0 v0n),some (vI v1),some (vI v5)] h =
((if (decide (v5 < ((v0n : Nat) : Int))) = true then
(if 0≤v5∧v5 < ((v0n : Nat) : Int) then
((v0 : Option Addr)).bind fun a1=>
(wr base h a1.block (a1.off + Int.toNat v5 * 1) [(.int .i64 v1)]).bind fun h2=>
some (0,[some (.slice v0 v0n v0n),some (.int .i64 (IntKind.wrap .i64 (v1 + (1 : Int)))),some (.int .i64 (IntKind.wrap .i64 (v5 + (1 : Int))))],h2)
else none)
else
some (2,[some (.int .i64 v1)],h)) : Option (Nat × Slots × AH)):=by kernel_rfl
theorem r42 {base : Nat} {v0 : Option Addr} {v0n : Nat} {v1 : Int} {h : AH} {r : Value × AH} (hx : ((loopL (B42_0 base) [some (.slice v0 v0n v0n),some (.int .i64 v1),some (.int .i64 (0 : Int))] h).bind fun q1=>
(if q1.1 = 2 then
((sget q1.2.1 0).bind (getI .i64)).bind fun n2=>
some ((.int .i64 n2),q1.2.2)
else
none)) = some r) : run (Et base) 42 [(vL v0 v0n),(vI v1)] h = some r:=run_i (an:=a42) Try.func42 (by kernel_rfl) (.trans (by kernel_rfl) hx)
noncomputable def B44_0 (base : Nat) : Body:=fun l h=>lay s44_0 l fun s=>exCode (Et base) (run (Et base)) loopL a44_0 (subC [1,0,1,0,0] (bodyC Try.f44)) s h (keepK s44_0 e44_0)
theorem B44_0_eq (base : Nat) (v0 : Option Addr) (v0n : Nat) (v1 : Int) (v5 : Int) (h : AH) : B44_0 base [some (vL v0 v0n),some (vI v1),some (vI v5)] h =
((if (decide (v5 < ((v0n : Nat) : Int))) = true then
(if 0≤v5∧v5 < ((v0n : Nat) : Int) then
((v0 : Option Addr)).bind fun a1=>
((cell h a1.block (a1.off + Int.toNat v5 * 1)).bind (getI .i64)).bind fun n2=>
(if (n2 != v1) = true then
some (1,[some (.int .i64 (-1 : Int))],h)
else
some (0,[some (.slice v0 v0n v0n),some (.int .i64 (IntKind.wrap .i64 (v1 + (1 : Int)))),some (.int .i64 (IntKind.wrap .i64 (v5 + (1 : Int))))],h))
else none)
else
some (2,[some (.int .i64 v1)],h)) : Option (Nat × Slots × AH)):=by kernel_rfl
theorem r44 {base : Nat} {v0 : Option Addr} {v0n : Nat} {v1 : Int} {h : AH} {r : Value × AH} (hx : ((loopL (B44_0 base) [some (.slice v0 v0n v0n),some (.int .i64 v1),some (.int .i64 (0 : Int))] h).bind fun q1=>
(if q1.1 = 1 then
((sget q1.2.1 0).bind (getI .i64)).bind fun n2=>
some ((.int .i64 n2),q1.2.2)
else
(if q1.1 = 2 then
((sget q1.2.1 0).bind (getI .i64)).bind fun n3=>
some ((.int .i64 n3),q1.2.2)
else
none))) = some r) : run (Et base) 44 [(vL v0 v0n),(vI v1)] h = some r:=run_i (an:=a44) Try.func44 (by kernel_rfl) (.trans (by kernel_rfl) hx)
noncomputable def B53_0 (base : Nat) : Body:=fun l h=>lay s53_0 l fun s=>exCode (Et base) (run (Et base)) loopL a53_0 (subC [1,1,1,0,1,0,0] (bodyC Try.f53)) s h (keepK s53_0 e53_0)
theorem B53_0_eq (base : Nat) (v0 : Option Addr) (v0n : Nat) (v1 : Int) (v5 : Int) (h : AH) : B53_0 base [some (vL v0 v0n),some (vI v1),some (vI v5)] h =
((if (decide (v5 < ((v0n : Nat) : Int))) = true then
(if 0≤v5∧v5 < ((v0n : Nat) : Int) then
((v0 : Option Addr)).bind fun a1=>
((cell h a1.block (a1.off + Int.toNat v5 * 6)).bind (getI .i64)).bind fun n2=>
((cell h a1.block ((a1.off + Int.toNat v5 * 6) + 1)).bind (getI .i64)).bind fun n3=>
((cell h a1.block (((a1.off + Int.toNat v5 * 6) + 1) + 1)).bind (getI .i64)).bind fun n4=>
((cell h a1.block ((((a1.off + Int.toNat v5 * 6) + 1) + 1) + 1)).bind (getI .i64)).bind fun n5=>
((cell h a1.block (((((a1.off + Int.toNat v5 * 6) + 1) + 1) + 1) + 1)).bind (getI .i64)).bind fun n6=>
((cell h a1.block ((((((a1.off + Int.toNat v5 * 6) + 1) + 1) + 1) + 1) + 1)).bind getStr).bind fun s7=>
(run (Et base) 112 [(.agg #[(.int .i64 n2),(.int .i64 n3),(.int .i64 n4),(.int .i64 n5),(.int .i64 n6),(.string s7)]),(.int .i64 v1)] h).bind fun r8=>
((some r8.1).bind (getI .i64)).bind fun n9=>
(if (decide (n9 < (0 : Int))) = true then
some (1,[some (.int .i64 (-1 : Int))],r8.2)
else
some (0,[some (.slice v0 v0n v0n),some (.int .i64 n9),some (.int .i64 (IntKind.wrap .i64 (v5 + (1 : Int))))],r8.2))
else none)
else
some (2,[some (.int .i64 v1)],h)) : Option (Nat × Slots × AH)):=by kernel_rfl
theorem r53 {base : Nat} {v0 : Option Addr} {v0n : Nat} {v1 : Int} {h : AH} {r : Value × AH} (hx : ((if (decide ((IntKind.wrap .i64 (v1 - ((v0n : Nat) : Int))) < (0 : Int))) = true then
some ((.int .i64 (-1 : Int)),h)
else
(loopL (B53_0 base) [some (.slice v0 v0n v0n),some (.int .i64 (IntKind.wrap .i64 (v1 - ((v0n : Nat) : Int)))),some (.int .i64 (0 : Int))] h).bind fun q1=>
(if q1.1 = 1 then
((sget q1.2.1 0).bind (getI .i64)).bind fun n2=>
some ((.int .i64 n2),q1.2.2)
else
(if q1.1 = 2 then
((sget q1.2.1 0).bind (getI .i64)).bind fun n3=>
some ((.int .i64 n3),q1.2.2)
else
none)))) = some r) : run (Et base) 53 [(vL v0 v0n),(vI v1)] h = some r:=run_i (an:=a53) Try.func53 (by kernel_rfl) (.trans (by kernel_rfl) hx)
noncomputable def B54_0 (base : Nat) : Body:=fun l h=>lay s54_0 l fun s=>exCode (Et base) (run (Et base)) loopL a54_0 (subC [1,1,1,0,1,0,0] (bodyC Try.f54)) s h (keepK s54_0 e54_0)
theorem B54_0_eq (base : Nat) (v0 : Option Addr) (v0n : Nat) (v1 : Int) (v5 : Int) (h : AH) : B54_0 base [some (vL v0 v0n),some (vI v1),some (vI v5)] h =
((if (decide (v5 < ((v0n : Nat) : Int))) = true then
(if 0≤v5∧v5 < ((v0n : Nat) : Int) then
((v0 : Option Addr)).bind fun a1=>
((cell h a1.block (a1.off + Int.toNat v5 * 5)).bind (getI .i64)).bind fun n2=>
((cell h a1.block ((a1.off + Int.toNat v5 * 5) + 1)).bind (getI .i64)).bind fun n3=>
((cell h a1.block (((a1.off + Int.toNat v5 * 5) + 1) + 1)).bind getS).bind fun l4=>
((cell h a1.block ((((a1.off + Int.toNat v5 * 5) + 1) + 1) + 1)).bind getS).bind fun l5=>
((cell h a1.block (((((a1.off + Int.toNat v5 * 5) + 1) + 1) + 1) + 1)).bind getS).bind fun l6=>
(run (Et base) 113 [(.agg #[(.int .i64 n2),(.int .i64 n3),(.slice l4.1 l4.2 l4.2),(.slice l5.1 l5.2 l5.2),(.slice l6.1 l6.2 l6.2)]),(.int .i64 v1)] h).bind fun r7=>
((some r7.1).bind (getI .i64)).bind fun n8=>
(if (decide (n8 < (0 : Int))) = true then
some (1,[some (.int .i64 (-1 : Int))],r7.2)
else
some (0,[some (.slice v0 v0n v0n),some (.int .i64 n8),some (.int .i64 (IntKind.wrap .i64 (v5 + (1 : Int))))],r7.2))
else none)
else
some (2,[some (.int .i64 v1)],h)) : Option (Nat × Slots × AH)):=by kernel_rfl
theorem r54 {base : Nat} {v0 : Option Addr} {v0n : Nat} {v1 : Int} {h : AH} {r : Value × AH} (hx : ((if (decide ((IntKind.wrap .i64 (v1 - ((v0n : Nat) : Int))) < (0 : Int))) = true then
some ((.int .i64 (-1 : Int)),h)
else
(loopL (B54_0 base) [some (.slice v0 v0n v0n),some (.int .i64 (IntKind.wrap .i64 (v1 - ((v0n : Nat) : Int)))),some (.int .i64 (0 : Int))] h).bind fun q1=>
(if q1.1 = 1 then
((sget q1.2.1 0).bind (getI .i64)).bind fun n2=>
some ((.int .i64 n2),q1.2.2)
else
(if q1.1 = 2 then
((sget q1.2.1 0).bind (getI .i64)).bind fun n3=>
some ((.int .i64 n3),q1.2.2)
else
none)))) = some r) : run (Et base) 54 [(vL v0 v0n),(vI v1)] h = some r:=run_i (an:=a54) Try.func54 (by kernel_rfl) (.trans (by kernel_rfl) hx)
noncomputable def B55_0 (base : Nat) : Body:=fun l h=>lay s55_0 l fun s=>exCode (Et base) (run (Et base)) loopL a55_0 (subC [1,1,1,0,1,0,0] (bodyC Try.f55)) s h (keepK s55_0 e55_0)
theorem B55_0_eq (base : Nat) (v0 : Option Addr) (v0n : Nat) (v1 : Int) (v5 : Int) (h : AH) : B55_0 base [some (vL v0 v0n),some (vI v1),some (vI v5)] h =
((if (decide (v5 < ((v0n : Nat) : Int))) = true then
(if 0≤v5∧v5 < ((v0n : Nat) : Int) then
((v0 : Option Addr)).bind fun a1=>
((cell h a1.block (a1.off + Int.toNat v5 * 6)).bind (getI .i64)).bind fun n2=>
((cell h a1.block ((a1.off + Int.toNat v5 * 6) + 1)).bind (getI .i64)).bind fun n3=>
((cell h a1.block (((a1.off + Int.toNat v5 * 6) + 1) + 1)).bind (getI .i64)).bind fun n4=>
((cell h a1.block ((((a1.off + Int.toNat v5 * 6) + 1) + 1) + 1)).bind (getI .i64)).bind fun n5=>
((cell h a1.block (((((a1.off + Int.toNat v5 * 6) + 1) + 1) + 1) + 1)).bind getStr).bind fun s6=>
((cell h a1.block ((((((a1.off + Int.toNat v5 * 6) + 1) + 1) + 1) + 1) + 1)).bind getS).bind fun l7=>
(run (Et base) 114 [(.agg #[(.int .i64 n2),(.int .i64 n3),(.int .i64 n4),(.int .i64 n5),(.string s6),(.slice l7.1 l7.2 l7.2)]),(.int .i64 v1)] h).bind fun r8=>
((some r8.1).bind (getI .i64)).bind fun n9=>
(if (decide (n9 < (0 : Int))) = true then
some (1,[some (.int .i64 (-1 : Int))],r8.2)
else
some (0,[some (.slice v0 v0n v0n),some (.int .i64 n9),some (.int .i64 (IntKind.wrap .i64 (v5 + (1 : Int))))],r8.2))
else none)
else
some (2,[some (.int .i64 v1)],h)) : Option (Nat × Slots × AH)):=by kernel_rfl
theorem r55 {base : Nat} {v0 : Option Addr} {v0n : Nat} {v1 : Int} {h : AH} {r : Value × AH} (hx : ((if (decide ((IntKind.wrap .i64 (v1 - ((v0n : Nat) : Int))) < (0 : Int))) = true then
some ((.int .i64 (-1 : Int)),h)
else
(loopL (B55_0 base) [some (.slice v0 v0n v0n),some (.int .i64 (IntKind.wrap .i64 (v1 - ((v0n : Nat) : Int)))),some (.int .i64 (0 : Int))] h).bind fun q1=>
(if q1.1 = 1 then
((sget q1.2.1 0).bind (getI .i64)).bind fun n2=>
some ((.int .i64 n2),q1.2.2)
else
(if q1.1 = 2 then
((sget q1.2.1 0).bind (getI .i64)).bind fun n3=>
some ((.int .i64 n3),q1.2.2)
else
none)))) = some r) : run (Et base) 55 [(vL v0 v0n),(vI v1)] h = some r:=run_i (an:=a55) Try.func55 (by kernel_rfl) (.trans (by kernel_rfl) hx)
noncomputable def B56_0 (base : Nat) : Body:=fun l h=>lay s56_0 l fun s=>exCode (Et base) (run (Et base)) loopL a56_0 (subC [1,1,1,0,1,0,0] (bodyC Try.f56)) s h (keepK s56_0 e56_0)
theorem B56_0_eq (base : Nat) (v0 : Option Addr) (v0n : Nat) (v1 : Int) (v5 : Int) (h : AH) : B56_0 base [some (vL v0 v0n),some (vI v1),some (vI v5)] h =
((if (decide (v5 < ((v0n : Nat) : Int))) = true then
(if 0≤v5∧v5 < ((v0n : Nat) : Int) then
((v0 : Option Addr)).bind fun a1=>
((cell h a1.block (a1.off + Int.toNat v5 * 4)).bind (getI .i64)).bind fun n2=>
((cell h a1.block ((a1.off + Int.toNat v5 * 4) + 1)).bind (getI .i64)).bind fun n3=>
((cell h a1.block (((a1.off + Int.toNat v5 * 4) + 1) + 1)).bind getStr).bind fun s4=>
((cell h a1.block ((((a1.off + Int.toNat v5 * 4) + 1) + 1) + 1)).bind getS).bind fun l5=>
(run (Et base) 12 [(.agg #[(.int .i64 n2),(.int .i64 n3),(.string s4),(.slice l5.1 l5.2 l5.2)]),(.int .i64 v1)] h).bind fun r6=>
((some r6.1).bind (getI .i64)).bind fun n7=>
(if (decide (n7 < (0 : Int))) = true then
some (1,[some (.int .i64 (-1 : Int))],r6.2)
else
some (0,[some (.slice v0 v0n v0n),some (.int .i64 n7),some (.int .i64 (IntKind.wrap .i64 (v5 + (1 : Int))))],r6.2))
else none)
else
some (2,[some (.int .i64 v1)],h)) : Option (Nat × Slots × AH)):=by kernel_rfl
theorem r56 {base : Nat} {v0 : Option Addr} {v0n : Nat} {v1 : Int} {h : AH} {r : Value × AH} (hx : ((if (decide ((IntKind.wrap .i64 (v1 - ((v0n : Nat) : Int))) < (0 : Int))) = true then
some ((.int .i64 (-1 : Int)),h)
else
(loopL (B56_0 base) [some (.slice v0 v0n v0n),some (.int .i64 (IntKind.wrap .i64 (v1 - ((v0n : Nat) : Int)))),some (.int .i64 (0 : Int))] h).bind fun q1=>
(if q1.1 = 1 then
((sget q1.2.1 0).bind (getI .i64)).bind fun n2=>
some ((.int .i64 n2),q1.2.2)
else
(if q1.1 = 2 then
((sget q1.2.1 0).bind (getI .i64)).bind fun n3=>
some ((.int .i64 n3),q1.2.2)
else
none)))) = some r) : run (Et base) 56 [(vL v0 v0n),(vI v1)] h = some r:=run_i (an:=a56) Try.func56 (by kernel_rfl) (.trans (by kernel_rfl) hx)
noncomputable def B57_1 (base : Nat) : Body:=fun l h=>lay s57_1 l fun s=>exCode (Et base) (run (Et base)) loopL a57_1 (subC [1,1,1,0,1,0,0] (bodyC Try.f57)) s h (keepK s57_1 e57_1)
noncomputable def B57_0 (base : Nat) : Body:=fun l h=>lay s57_0 l fun s=>exCode (Et base) (run (Et base)) loopL a57_0 (subC [1,1,0,1,0,0] (bodyC Try.f57)) s h (keepK s57_0 e57_0)
theorem B57_1_eq (base : Nat) (v1 : Addr) (v2 : Addr) (v3 : Addr) (v5 : Int) (h : AH) : B57_1 base [some (vA v1),some (vA v2),some (vA v3),some (vI v5)] h =
(((cell h v1.block (v1.off + 3)).bind getS).bind fun l1=>
(if (decide (v5 < ((l1.2 : Nat) : Int))) = true then
((cell h v1.block (v1.off + 3)).bind getS).bind fun l2=>
(if 0≤v5∧v5 < ((l2.2 : Nat) : Int) then
((l2.1 : Option Addr)).bind fun a3=>
c_IIIITL h a3.block (a3.off + Int.toNat v5 * 6) fun n4 n5 n6 n7 s8 l9=>
nw1 h 140 [(vI 0),(vI 0),(vI 0),(vI 0),(vT ⟨#[]⟩),(vL none 0)] fun h10=>
(wr base h10 (List.length h) 0 [(vI n4),(vI n5),(vI n6),(vI n7),(vT s8),(vL l9.1 l9.2)]).bind fun h11=>
c_IITL h11 (List.length h) 2 fun n12 n13 s14 l15=>
(run (Et base) 116 [(.agg #[(vI n12),(vI n13),(vT s14),(vL l15.1 l15.2)])] h11).bind fun r16=>
gG (some r16.1) 4 fun l17=>
l_IITL l17 fun n18 n19 s20 l21=>
(wr base r16.2 (List.length h) 2 [(vI n18),(vI n19),(vT s20),(vL l21.1 l21.2)]).bind fun h22=>
((cell h22 v3.block (v3.off + 3)).bind getS).bind fun l23=>
c_IIIITL h22 (List.length h) 0 fun n24 n25 n26 n27 s28 l29=>
nw1 h22 140 [(vI n24),(vI n25),(vI n26),(vI n27),(vT s28),(vL l29.1 l29.2)] fun h30=>
(app base h30 140 6 72 l23.1 l23.2 (rawAt h30 (some ⟨(List.length h22),0,none⟩) (1 * 6)) 1).bind fun p31=>
((some p31.1).bind getS).bind fun l32=>
(wr base p31.2 v3.block (v3.off + 3) [(vL l32.1 l32.2)]).bind fun h33=>
some (0,[some (vA v1),some (vA v2),some (vA v3),some (vI (IntKind.wrap .i64 (v5 + (1 : Int))))],h33)
else none)
else
some (4,[some (vA v2),some (vA v3)],h)) : Option (Nat × Slots × AH)):=by kernel_rfl
theorem B57_0_eq (base : Nat) (v1 : Addr) (v2 : Addr) (v3 : Addr) (v4 : Int) (h : AH) : B57_0 base [some (vA v1),some (vA v2),some (vA v3),some (vI v4)] h =
(((cell h v1.block (v1.off + 1)).bind getS).bind fun l1=>
(if (decide (v4 < ((l1.2 : Nat) : Int))) = true then
((cell h v3.block (v3.off + 1)).bind getS).bind fun l2=>
((cell h v1.block (v1.off + 1)).bind getS).bind fun l3=>
(if 0≤v4∧v4 < ((l3.2 : Nat) : Int) then
((l3.1 : Option Addr)).bind fun a4=>
c_IILLL h a4.block (a4.off + Int.toNat v4 * 5) fun n5 n6 l7 l8 l9=>
(run (Et base) 115 [(.agg #[(vI n5),(vI n6),(vL l7.1 l7.2),(vL l8.1 l8.2),(vL l9.1 l9.2)])] h).bind fun r10=>
gG (some r10.1) 5 fun l11=>
l_IILLL l11 fun n12 n13 l14 l15 l16=>
(gate (sameA h r10.2 (some ⟨v3.block,(v3.off + 1),none⟩) 1)
((gate (neA (some ⟨v3.block,(v3.off + 1),none⟩) (List.length r10.2))
(nw1 r10.2 54 [(vI n12),(vI n13),(vL l14.1 l14.2),(vL l15.1 l15.2),(vL l16.1 l16.2)] fun h17=>
(app base h17 54 5 88 l2.1 l2.2 (rawAt h17 (some ⟨(List.length r10.2),0,none⟩) (1 * 5)) 1).bind fun p18=>
((some p18.1).bind getS).bind fun l19=>
(wr base p18.2 v3.block (v3.off + 1) [(vL l19.1 l19.2)]).bind fun h20=>
some (0,[some (vA v1),some (vA v2),some (vA v3),some (vI (IntKind.wrap .i64 (v4 + (1 : Int))))],h20)))))
else none)
else
some (2,[some (vA v1),some (vA v2),some (vA v3)],h)) : Option (Nat × Slots × AH)):=by kernel_rfl
theorem r57 {base : Nat} {v0_0 : Option Addr} {v0_0n : Nat} {v0_1 : Option Addr} {v0_1n : Nat} {v0_2 : Int} {v0_3 : Option Addr} {v0_3n : Nat} {h : AH} {r : Value × AH} (hx : (nw1 h 36 [(vL v0_0 v0_0n),(vL v0_1 v0_1n),(vI v0_2),(vL v0_3 v0_3n)] fun h1=>
nw1 h1 36 [(vL none 0),(vL none 0),(vI 0),(vL none 0)] fun h2=>
nw1 h2 143 [] fun h3=>
(gate (neA (some ⟨(List.length h),0,none⟩) (List.length h2))
(((cell h3 (List.length h) 0).bind getS).bind fun l4=>
(app base h3 143 6 56 (some ⟨(List.length h2),0,none⟩) 0 (rawAt h3 l4.1 (l4.2 * 6)) l4.2).bind fun p5=>
((some p5.1).bind getS).bind fun l6=>
(gate (neA (some ⟨(List.length h),2,none⟩) (List.length h2))
((gate (sameA h3 p5.2 (some ⟨(List.length h),2,none⟩) 1)
(((cell p5.2 (List.length h) 2).bind (getI .i64)).bind fun n7=>
(gate (neA (some ⟨(List.length h),2,none⟩) (List.length p5.2))
((gate (neA (some ⟨(List.length h),0,none⟩) (List.length p5.2))
(nw1 p5.2 36 [(vL none 0),(vL none 0),(vI 0),(vL none 0)] fun h8=>
(wr base h8 (List.length p5.2) 0 [(vL l6.1 l6.2),(vL none 0),(vI n7),(vL none 0)]).bind fun h9=>
(loopL (B57_0 base) [some (vP (List.length h)),some (vP (List.length h1)),some (vP (List.length p5.2)),some (vI (0 : Int))] h9).bind fun q10=>
(if q10.1 = 2 then
j_AAA q10.2.1 fun d11 d12 d13=>
(loopL (B57_1 base) [some (vA d11),some (vA d12),some (vA d13),some (vI (0 : Int))] q10.2.2).bind fun q14=>
(if q14.1 = 4 then
j_AA q14.2.1 fun d15 d16=>
c_LLIL q14.2.2 d16.block d16.off fun l17 l18 n19 l20=>
(wr base q14.2.2 d15.block d15.off [(vL l17.1 l17.2),(vL l18.1 l18.2),(vI n19),(vL l20.1 l20.2)]).bind fun h21=>
c_LLIL h21 d15.block d15.off fun l22 l23 n24 l25=>
some ((.agg #[(vL l22.1 l22.2),(vL l23.1 l23.2),(vI n24),(vL l25.1 l25.2)]),h21)
else
none)
else
none)))))))))))) = some r) : run (Et base) 57 [(.agg #[(vL v0_0 v0_0n),(vL v0_1 v0_1n),(vI v0_2),(vL v0_3 v0_3n)])] h = some r:=run_i (an:=a57) Try.func57 (by kernel_rfl) (.trans (by kernel_rfl) hx)
theorem r58 {base : Nat} {v0_0 : Int} {v0_1 : Int} {v0_2 : ByteArray} {v0_3 : Option Addr} {v0_3n : Nat} {h : AH} {r : Value × AH} (hx : ((some (h++[some ⟨[(.int .i64 v0_0),(.int .i64 v0_1),(.string v0_2),(.slice v0_3 v0_3n v0_3n)],42⟩])).bind fun h1=>
((cell h1 (List.length h) 0).bind (getI .i64)).bind fun n2=>
((cell h1 (List.length h) 1).bind (getI .i64)).bind fun n3=>
((cell h1 (List.length h) 2).bind getStr).bind fun s4=>
((cell h1 (List.length h) 3).bind getS).bind fun l5=>
(run (Et base) 117 [(.agg #[(.int .i64 n2),(.int .i64 n3),(.string s4),(.slice l5.1 l5.2 l5.2)]),(.int .i64 (6 : Int)),(.int .i64 (100 : Int))] h1).bind fun r6=>
((some r6.1).bind (getI .i64)).bind fun n7=>
some ((.bool (decide (n7 ≥ (0 : Int)))),r6.2)) = some r) : run (Et base) 58 [(.agg #[(vI v0_0),(vI v0_1),(vT v0_2),(vL v0_3 v0_3n)])] h = some r:=run_i (an:=a58) Try.func58 (by kernel_rfl) (.trans (by kernel_rfl) hx)
noncomputable abbrev qf59 (base : Nat) (v0 : Option Addr) (v1 : Int) (v2_0 : Int) (v2_1 : Int) (v2_2 : ByteArray) (v2_3 : Option Addr) (v2_3n : Nat) (h : AH) : Option (Value × AH):=
nw1 h 42 [(vI v2_0),(vI v2_1),(vT v2_2),(vL v2_3 v2_3n)] fun h1=>
(v0).bind fun a2=>
c_LLIL h1 a2.block a2.off fun l3 l4 n5 l6=>
(run (Et base) 118 [(.agg #[(vL l3.1 l3.2),(vL l4.1 l4.2),(vI n5),(vL l6.1 l6.2)]),(vI v1)] h1).bind fun r7=>
((some r7.1).bind (getI .i64)).bind fun n8=>
((if (decide (n8 < (0 : Int))) = true then
some (.inl ([some (.pointer v0),some (vP (List.length h)),some (vI n8),some (.bool true)],r7.2))
else
(v0).bind fun a10=>
((cell r7.2 a10.block (a10.off + 1)).bind getS).bind fun l11=>
(if 0≤n8∧n8 < ((l11.2 : Nat) : Int) then
((l11.1 : Option Addr)).bind fun a12=>
((cell r7.2 a12.block ((a12.off + Int.toNat n8 * 5) + 3)).bind getS).bind fun l13=>
some (.inl ([some (.pointer v0),some (vP (List.length h)),some (vI n8),some (.bool (decide (((l13.2 : Nat) : Int) ≥ (30 : Int))))],r7.2))
else none))).bind fun j9=>joinK j9 fun j9=>
j_PAIB j9.1 fun p14 d15 n16 b17=>
(if b17 = true then
some ((.bool false),j9.2)
else
(p14).bind fun a18=>
((cell j9.2 a18.block (a18.off + 1)).bind getS).bind fun l19=>
(gate (neA (some ⟨a18.block,(a18.off + 1),none⟩) (List.length j9.2))
(nw1 j9.2 42 [] fun h20=>
(p14).bind fun a21=>
(gate (neA (some ⟨a21.block,(a21.off + 1),none⟩) (List.length j9.2))
(((cell h20 a21.block (a21.off + 1)).bind getS).bind fun l22=>
(if 0≤n16∧n16 < ((l22.2 : Nat) : Int) then
((l22.1 : Option Addr)).bind fun a23=>
(gate (neA (some ⟨a23.block,((a23.off + Int.toNat n16 * 5) + 3),none⟩) (List.length j9.2))
(((cell h20 a23.block ((a23.off + Int.toNat n16 * 5) + 3)).bind getS).bind fun l24=>
(app base h20 42 4 56 (some ⟨(List.length j9.2),0,none⟩) 0 (rawAt h20 l24.1 (l24.2 * 4)) l24.2).bind fun p25=>
((some p25.1).bind getS).bind fun l26=>
(gate (sameA h20 p25.2 (some ⟨a18.block,(a18.off + 1),none⟩) 1)
((gate (neA (some d15) (List.length j9.2))
((gate (sameA h20 p25.2 (some d15) 4)
(c_IITL p25.2 d15.block d15.off fun n27 n28 s29 l30=>
(run (Et base) 116 [(.agg #[(vI n27),(vI n28),(vT s29),(vL l30.1 l30.2)])] p25.2).bind fun r31=>
gG (some r31.1) 4 fun l32=>
l_IITL l32 fun n33 n34 s35 l36=>
(gate (sameA p25.2 r31.2 (some ⟨a18.block,(a18.off + 1),none⟩) 1)
((gate (neA (some ⟨a18.block,(a18.off + 1),none⟩) (List.length r31.2))
(nw1 r31.2 42 [(vI n33),(vI n34),(vT s35),(vL l36.1 l36.2)] fun h37=>
(app base h37 42 4 56 l26.1 l26.2 (rawAt h37 (some ⟨(List.length r31.2),0,none⟩) (1 * 4)) 1).bind fun p38=>
((some p38.1).bind getS).bind fun l39=>
(gate (sameA h37 p38.2 (some ⟨a18.block,(a18.off + 1),none⟩) 1)
((if 0≤n16∧n16 < ((l19.2 : Nat) : Int) then
((l19.1 : Option Addr)).bind fun a40=>
(wr base p38.2 a40.block ((a40.off + Int.toNat n16 * 5) + 3) [(vL l39.1 l39.2)]).bind fun h41=>
some ((.bool true),h41)
else none)))))))))))))))
else none))))))
theorem r59 {base : Nat} {v0 : Option Addr} {v1 : Int} {v2_0 : Int} {v2_1 : Int} {v2_2 : ByteArray} {v2_3 : Option Addr} {v2_3n : Nat} {h : AH} {r : Value × AH} (hx : qf59 base v0 v1 v2_0 v2_1 v2_2 v2_3 v2_3n h = some r) : run (Et base) 59 [(.pointer v0),(vI v1),(.agg #[(vI v2_0),(vI v2_1),(vT v2_2),(vL v2_3 v2_3n)])] h = some r:=run_i (an:=a59) Try.func59 (by kernel_rfl) (.trans (by kernel_rfl) hx)
noncomputable def B60_0 (base : Nat) : Body:=fun l h=>lay s60_0 l fun s=>exCode (Et base) (run (Et base)) loopL a60_0 (subC [1,1,0,1,0,0] (bodyC Try.f60)) s h (keepK s60_0 e60_0)
theorem B60_0_eq (base : Nat) (v0 : Option Addr) (v0n : Nat) (v3 : Option Addr) (v3n : Nat) (v4 : Int) (h : AH) : B60_0 base [some (vL v0 v0n),some (vL v3 v3n),some (vI v4)] h =
((if (decide (v4 < ((v0n : Nat) : Int))) = true then
(if 0≤v4∧v4 < ((v0n : Nat) : Int) then
((v0 : Option Addr)).bind fun a1=>
c_IIIIIT h a1.block (a1.off + Int.toNat v4 * 6) fun n2 n3 n4 n5 n6 s7=>
(run (Et base) 119 [(.agg #[(vI n2),(vI n3),(vI n4),(vI n5),(vI n6),(vT s7)])] h).bind fun r8=>
gG (some r8.1) 6 fun l9=>
l_IIIIIT l9 fun n10 n11 n12 n13 n14 s15=>
(if 0≤v4∧v4 < ((v3n : Nat) : Int) then
((v3 : Option Addr)).bind fun a16=>
(wr base r8.2 a16.block (a16.off + Int.toNat v4 * 6) [(vI n10),(vI n11),(vI n12),(vI n13),(vI n14),(vT s15)]).bind fun h17=>
some (0,[some (vL v0 v0n),some (vL v3 v3n),some (vI (IntKind.wrap .i64 (v4 + (1 : Int))))],h17)
else none)
else none)
else
some (2,[some (vL v3 v3n)],h)) : Option (Nat × Slots × AH)):=by kernel_rfl
theorem r60 {base : Nat} {v0 : Option Addr} {v0n : Nat} {h : AH} {r : Value × AH} (hx : ((if ((v0n : Nat) : Int) = ((v0n : Nat) : Int)∧0≤((v0n : Nat) : Int)∧((v0n : Nat) : Int) * 56≤140737488355328∧((v0n : Nat) : Int)≤140737488355328 then
(some (h++[some ⟨rep [(.int .i64 0),(.int .i64 0),(.int .i64 0),(.int .i64 0),(.int .i64 0),(.string ⟨#[]⟩)] (Int.toNat ((v0n : Nat) : Int)),143⟩])).bind fun h1=>
(loopL (B60_0 base) [some (.slice v0 v0n v0n),some (.slice (some ⟨(List.length h),0,none⟩) (Int.toNat ((v0n : Nat) : Int)) (Int.toNat ((v0n : Nat) : Int))),some (.int .i64 (0 : Int))] h1).bind fun q2=>
(if q2.1 = 2 then
((sget q2.2.1 0).bind getS).bind fun l3=>
some ((.slice l3.1 l3.2 l3.2),q2.2.2)
else
none)
else none)) = some r) : run (Et base) 60 [(vL v0 v0n)] h = some r:=run_i (an:=a60) Try.func60 (by kernel_rfl) (.trans (by kernel_rfl) hx)
noncomputable def B61_0 (base : Nat) : Body:=fun l h=>lay s61_0 l fun s=>exCode (Et base) (run (Et base)) loopL a61_0 (subC [1,1,0,1,0,0] (bodyC Try.f61)) s h (keepK s61_0 e61_0)
theorem B61_0_eq (base : Nat) (v0 : Option Addr) (v0n : Nat) (v3 : Option Addr) (v3n : Nat) (v4 : Int) (h : AH) : B61_0 base [some (vL v0 v0n),some (vL v3 v3n),some (vI v4)] h =
((if (decide (v4 < ((v0n : Nat) : Int))) = true then
(if 0≤v4∧v4 < ((v0n : Nat) : Int) then
((v0 : Option Addr)).bind fun a1=>
((cell h a1.block (a1.off + Int.toNat v4 * 5)).bind (getI .i64)).bind fun n2=>
((cell h a1.block ((a1.off + Int.toNat v4 * 5) + 1)).bind (getI .i64)).bind fun n3=>
((cell h a1.block (((a1.off + Int.toNat v4 * 5) + 1) + 1)).bind getS).bind fun l4=>
((cell h a1.block ((((a1.off + Int.toNat v4 * 5) + 1) + 1) + 1)).bind getS).bind fun l5=>
((cell h a1.block (((((a1.off + Int.toNat v4 * 5) + 1) + 1) + 1) + 1)).bind getS).bind fun l6=>
(run (Et base) 120 [(.agg #[(.int .i64 n2),(.int .i64 n3),(.slice l4.1 l4.2 l4.2),(.slice l5.1 l5.2 l5.2),(.slice l6.1 l6.2 l6.2)])] h).bind fun r7=>
((some r7.1).bind (getAgg 5)).bind fun l8=>
((l8[0]?).bind (getI .i64)).bind fun n9=>
((l8[1]?).bind (getI .i64)).bind fun n10=>
((l8[2]?).bind getS).bind fun l11=>
((l8[3]?).bind getS).bind fun l12=>
((l8[4]?).bind getS).bind fun l13=>
(if 0≤v4∧v4 < ((v3n : Nat) : Int) then
((v3 : Option Addr)).bind fun a14=>
(wr base r7.2 a14.block (a14.off + Int.toNat v4 * 5) [(.int .i64 n9),(.int .i64 n10),(.slice l11.1 l11.2 l11.2),(.slice l12.1 l12.2 l12.2),(.slice l13.1 l13.2 l13.2)]).bind fun h15=>
some (0,[some (.slice v0 v0n v0n),some (.slice v3 v3n v3n),some (.int .i64 (IntKind.wrap .i64 (v4 + (1 : Int))))],h15)
else none)
else none)
else
some (2,[some (.slice v3 v3n v3n)],h)) : Option (Nat × Slots × AH)):=by kernel_rfl
theorem r61 {base : Nat} {v0 : Option Addr} {v0n : Nat} {h : AH} {r : Value × AH} (hx : ((if ((v0n : Nat) : Int) = ((v0n : Nat) : Int)∧0≤((v0n : Nat) : Int)∧((v0n : Nat) : Int) * 88≤140737488355328∧((v0n : Nat) : Int)≤140737488355328 then
(some (h++[some ⟨rep [(.int .i64 0),(.int .i64 0),(.slice none 0 0),(.slice none 0 0),(.slice none 0 0)] (Int.toNat ((v0n : Nat) : Int)),54⟩])).bind fun h1=>
(loopL (B61_0 base) [some (.slice v0 v0n v0n),some (.slice (some ⟨(List.length h),0,none⟩) (Int.toNat ((v0n : Nat) : Int)) (Int.toNat ((v0n : Nat) : Int))),some (.int .i64 (0 : Int))] h1).bind fun q2=>
(if q2.1 = 2 then
((sget q2.2.1 0).bind getS).bind fun l3=>
some ((.slice l3.1 l3.2 l3.2),q2.2.2)
else
none)
else none)) = some r) : run (Et base) 61 [(vL v0 v0n)] h = some r:=run_i (an:=a61) Try.func61 (by kernel_rfl) (.trans (by kernel_rfl) hx)
noncomputable def B62_0 (base : Nat) : Body:=fun l h=>lay s62_0 l fun s=>exCode (Et base) (run (Et base)) loopL a62_0 (subC [1,1,0,1,0,0] (bodyC Try.f62)) s h (keepK s62_0 e62_0)
theorem B62_0_eq (base : Nat) (v0 : Option Addr) (v0n : Nat) (v3 : Option Addr) (v3n : Nat) (v4 : Int) (h : AH) : B62_0 base [some (vL v0 v0n),some (vL v3 v3n),some (vI v4)] h =
((if (decide (v4 < ((v0n : Nat) : Int))) = true then
(if 0≤v4∧v4 < ((v0n : Nat) : Int) then
((v0 : Option Addr)).bind fun a1=>
c_IIIITL h a1.block (a1.off + Int.toNat v4 * 6) fun n2 n3 n4 n5 s6 l7=>
(run (Et base) 121 [(.agg #[(vI n2),(vI n3),(vI n4),(vI n5),(vT s6),(vL l7.1 l7.2)])] h).bind fun r8=>
gG (some r8.1) 6 fun l9=>
l_IIIITL l9 fun n10 n11 n12 n13 s14 l15=>
(if 0≤v4∧v4 < ((v3n : Nat) : Int) then
((v3 : Option Addr)).bind fun a16=>
(wr base r8.2 a16.block (a16.off + Int.toNat v4 * 6) [(vI n10),(vI n11),(vI n12),(vI n13),(vT s14),(vL l15.1 l15.2)]).bind fun h17=>
some (0,[some (vL v0 v0n),some (vL v3 v3n),some (vI (IntKind.wrap .i64 (v4 + (1 : Int))))],h17)
else none)
else none)
else
some (2,[some (vL v3 v3n)],h)) : Option (Nat × Slots × AH)):=by kernel_rfl
theorem r62 {base : Nat} {v0 : Option Addr} {v0n : Nat} {h : AH} {r : Value × AH} (hx : ((if ((v0n : Nat) : Int) = ((v0n : Nat) : Int)∧0≤((v0n : Nat) : Int)∧((v0n : Nat) : Int) * 72≤140737488355328∧((v0n : Nat) : Int)≤140737488355328 then
(some (h++[some ⟨rep [(.int .i64 0),(.int .i64 0),(.int .i64 0),(.int .i64 0),(.string ⟨#[]⟩),(.slice none 0 0)] (Int.toNat ((v0n : Nat) : Int)),140⟩])).bind fun h1=>
(loopL (B62_0 base) [some (.slice v0 v0n v0n),some (.slice (some ⟨(List.length h),0,none⟩) (Int.toNat ((v0n : Nat) : Int)) (Int.toNat ((v0n : Nat) : Int))),some (.int .i64 (0 : Int))] h1).bind fun q2=>
(if q2.1 = 2 then
((sget q2.2.1 0).bind getS).bind fun l3=>
some ((.slice l3.1 l3.2 l3.2),q2.2.2)
else
none)
else none)) = some r) : run (Et base) 62 [(vL v0 v0n)] h = some r:=run_i (an:=a62) Try.func62 (by kernel_rfl) (.trans (by kernel_rfl) hx)
noncomputable def B63_0 (base : Nat) : Body:=fun l h=>lay s63_0 l fun s=>exCode (Et base) (run (Et base)) loopL a63_0 (subC [1,1,0,1,0,0] (bodyC Try.f63)) s h (keepK s63_0 e63_0)
theorem B63_0_eq (base : Nat) (v0 : Option Addr) (v0n : Nat) (v3 : Option Addr) (v3n : Nat) (v4 : Int) (h : AH) : B63_0 base [some (vL v0 v0n),some (vL v3 v3n),some (vI v4)] h =
((if (decide (v4 < ((v0n : Nat) : Int))) = true then
(if 0≤v4∧v4 < ((v0n : Nat) : Int) then
((v0 : Option Addr)).bind fun a1=>
((cell h a1.block (a1.off + Int.toNat v4 * 4)).bind (getI .i64)).bind fun n2=>
((cell h a1.block ((a1.off + Int.toNat v4 * 4) + 1)).bind (getI .i64)).bind fun n3=>
((cell h a1.block (((a1.off + Int.toNat v4 * 4) + 1) + 1)).bind getStr).bind fun s4=>
((cell h a1.block ((((a1.off + Int.toNat v4 * 4) + 1) + 1) + 1)).bind getS).bind fun l5=>
(run (Et base) 15 [(.agg #[(.int .i64 n2),(.int .i64 n3),(.string s4),(.slice l5.1 l5.2 l5.2)])] h).bind fun r6=>
((some r6.1).bind (getAgg 4)).bind fun l7=>
((l7[0]?).bind (getI .i64)).bind fun n8=>
((l7[1]?).bind (getI .i64)).bind fun n9=>
((l7[2]?).bind getStr).bind fun s10=>
((l7[3]?).bind getS).bind fun l11=>
(if 0≤v4∧v4 < ((v3n : Nat) : Int) then
((v3 : Option Addr)).bind fun a12=>
(wr base r6.2 a12.block (a12.off + Int.toNat v4 * 4) [(.int .i64 n8),(.int .i64 n9),(.string s10),(.slice l11.1 l11.2 l11.2)]).bind fun h13=>
some (0,[some (.slice v0 v0n v0n),some (.slice v3 v3n v3n),some (.int .i64 (IntKind.wrap .i64 (v4 + (1 : Int))))],h13)
else none)
else none)
else
some (2,[some (.slice v3 v3n v3n)],h)) : Option (Nat × Slots × AH)):=by kernel_rfl
theorem r63 {base : Nat} {v0 : Option Addr} {v0n : Nat} {h : AH} {r : Value × AH} (hx : ((if ((v0n : Nat) : Int) = ((v0n : Nat) : Int)∧0≤((v0n : Nat) : Int)∧((v0n : Nat) : Int) * 56≤140737488355328∧((v0n : Nat) : Int)≤140737488355328 then
(some (h++[some ⟨rep [(.int .i64 0),(.int .i64 0),(.string ⟨#[]⟩),(.slice none 0 0)] (Int.toNat ((v0n : Nat) : Int)),42⟩])).bind fun h1=>
(loopL (B63_0 base) [some (.slice v0 v0n v0n),some (.slice (some ⟨(List.length h),0,none⟩) (Int.toNat ((v0n : Nat) : Int)) (Int.toNat ((v0n : Nat) : Int))),some (.int .i64 (0 : Int))] h1).bind fun q2=>
(if q2.1 = 2 then
((sget q2.2.1 0).bind getS).bind fun l3=>
some ((.slice l3.1 l3.2 l3.2),q2.2.2)
else
none)
else none)) = some r) : run (Et base) 63 [(vL v0 v0n)] h = some r:=run_i (an:=a63) Try.func63 (by kernel_rfl) (.trans (by kernel_rfl) hx)
noncomputable def B64_0 (base : Nat) : Body:=fun l h=>lay s64_0 l fun s=>exCode (Et base) (run (Et base)) loopL a64_0 (subC [1,1,0,1,0,0] (bodyC Try.f64)) s h (keepK s64_0 e64_0)
theorem B64_0_eq (base : Nat) (v2 : Addr) (v3 : Addr) (v16 : Option Addr) (v16n : Nat) (v17 : Int) (v18 : Int) (h : AH) : B64_0 base [some (vA v2),some (vA v3),some (vL v16 v16n),some (vI v17),some (vI v18)] h =
((if (decide (v18 < v17)) = true then
(if 0≤v18∧v18 < ((v16n : Nat) : Int) then
((v16 : Option Addr)).bind fun a1=>
c_IILLL h a1.block (a1.off + Int.toNat v18 * 5) fun n2 n3 l4 l5 l6=>
nw1 h 54 [(vI 0),(vI 0),(vL none 0),(vL none 0),(vL none 0)] fun h7=>
(wr base h7 (List.length h) 0 [(vI n2),(vI n3),(vL l4.1 l4.2),(vL l5.1 l5.2),(vL l6.1 l6.2)]).bind fun h8=>
((cell h8 v3.block (v3.off + 1)).bind getS).bind fun l9=>
c_IILLL h8 (List.length h) 0 fun n10 n11 l12 l13 l14=>
(run (Et base) 123 [(.agg #[(vI n10),(vI n11),(vL l12.1 l12.2),(vL l13.1 l13.2),(vL l14.1 l14.2)])] h8).bind fun r15=>
gG (some r15.1) 5 fun l16=>
l_IILLL l16 fun n17 n18 l19 l20 l21=>
(gate (sameA h8 r15.2 (some ⟨v3.block,(v3.off + 1),none⟩) 1)
((gate (neA (some ⟨v3.block,(v3.off + 1),none⟩) (List.length r15.2))
(nw1 r15.2 54 [(vI n17),(vI n18),(vL l19.1 l19.2),(vL l20.1 l20.2),(vL l21.1 l21.2)] fun h22=>
(app base h22 54 5 88 l9.1 l9.2 (rawAt h22 (some ⟨(List.length r15.2),0,none⟩) (1 * 5)) 1).bind fun p23=>
((some p23.1).bind getS).bind fun l24=>
(wr base p23.2 v3.block (v3.off + 1) [(vL l24.1 l24.2)]).bind fun h25=>
some (0,[some (vA v2),some (vA v3),some (vL v16 v16n),some (vI v17),some (vI (IntKind.wrap .i64 (v18 + (1 : Int))))],h25)))))
else none)
else
some (2,[some (vA v2),some (vA v3)],h)) : Option (Nat × Slots × AH)):=by kernel_rfl
theorem r64 {base : Nat} {v0_0 : Option Addr} {v0_0n : Nat} {v0_1 : Option Addr} {v0_1n : Nat} {v0_2 : Int} {v0_3 : Option Addr} {v0_3n : Nat} {h : AH} {r : Value × AH} (hx : (nw1 h 36 [(vL v0_0 v0_0n),(vL v0_1 v0_1n),(vI v0_2),(vL v0_3 v0_3n)] fun h1=>
nw1 h1 36 [(vL none 0),(vL none 0),(vI 0),(vL none 0)] fun h2=>
((cell h2 (List.length h) 0).bind getS).bind fun l3=>
(app base h2 143 6 56 none 0 (rawAt h2 l3.1 (l3.2 * 6)) l3.2).bind fun p4=>
((some p4.1).bind getS).bind fun l5=>
(gate (sameA h2 p4.2 (some ⟨(List.length h),2,none⟩) 1)
(((cell p4.2 (List.length h) 2).bind (getI .i64)).bind fun n6=>
(gate (sameA h2 p4.2 (some ⟨(List.length h),3,none⟩) 1)
(((cell p4.2 (List.length h) 3).bind getS).bind fun l7=>
(run (Et base) 122 [(vL l7.1 l7.2)] p4.2).bind fun r8=>
((some r8.1).bind getS).bind fun l9=>
(gate (sameA p4.2 r8.2 (some ⟨(List.length h),2,none⟩) 1)
((gate (neA (some ⟨(List.length h),3,none⟩) (List.length r8.2))
((gate (neA (some ⟨(List.length h),2,none⟩) (List.length r8.2))
((gate (neA (some ⟨(List.length h),0,none⟩) (List.length r8.2))
(nw1 r8.2 36 [(vL none 0),(vL none 0),(vI 0),(vL none 0)] fun h10=>
(wr base h10 (List.length r8.2) 0 [(vL l5.1 l5.2),(vL none 0),(vI n6),(vL l9.1 l9.2)]).bind fun h11=>
((cell h11 (List.length h) 1).bind getS).bind fun l12=>
(loopL (B64_0 base) [some (vP (List.length h1)),some (vP (List.length r8.2)),some (vL l12.1 l12.2),some (vI ((l12.2 : Nat) : Int)),some (vI (0 : Int))] h11).bind fun q13=>
(if q13.1 = 2 then
j_AA q13.2.1 fun d14 d15=>
c_LLIL q13.2.2 d15.block d15.off fun l16 l17 n18 l19=>
(wr base q13.2.2 d14.block d14.off [(vL l16.1 l16.2),(vL l17.1 l17.2),(vI n18),(vL l19.1 l19.2)]).bind fun h20=>
c_LLIL h20 d14.block d14.off fun l21 l22 n23 l24=>
some ((.agg #[(vL l21.1 l21.2),(vL l22.1 l22.2),(vI n23),(vL l24.1 l24.2)]),h20)
else
none)))))))))))))) = some r) : run (Et base) 64 [(.agg #[(vL v0_0 v0_0n),(vL v0_1 v0_1n),(vI v0_2),(vL v0_3 v0_3n)])] h = some r:=run_i (an:=a64) Try.func64 (by kernel_rfl) (.trans (by kernel_rfl) hx)
theorem r65 {base : Nat} {v0_0 : Int} {v0_1 : Int} {v0_2 : ByteArray} {v0_3 : Option Addr} {v0_3n : Nat} {h : AH} {r : Value × AH} (hx : ((some (h++[some ⟨[(.int .i64 v0_0),(.int .i64 v0_1),(.string v0_2),(.slice v0_3 v0_3n v0_3n)],42⟩])).bind fun h1=>
((cell h1 (List.length h) 0).bind (getI .i64)).bind fun n2=>
((cell h1 (List.length h) 1).bind (getI .i64)).bind fun n3=>
((cell h1 (List.length h) 2).bind getStr).bind fun s4=>
((cell h1 (List.length h) 3).bind getS).bind fun l5=>
(run (Et base) 124 [(.agg #[(.int .i64 n2),(.int .i64 n3),(.string s4),(.slice l5.1 l5.2 l5.2)]),(.int .i64 (1 : Int)),(.int .i64 (0 : Int))] h1).bind fun r6=>
(getTup 2 r6.1).bind fun l7=>
((l7[0]?).bind (getI .i64)).bind fun n8=>
((l7[1]?).bind getB).bind fun b9=>
some ((.bool b9),r6.2)) = some r) : run (Et base) 65 [(.agg #[(vI v0_0),(vI v0_1),(vT v0_2),(vL v0_3 v0_3n)])] h = some r:=run_i (an:=a65) Try.func65 (by kernel_rfl) (.trans (by kernel_rfl) hx)
end Go.Proofs.Ytkdenmdijdmnjaa.Am
